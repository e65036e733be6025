-- Made by wip/hyb (a program of this session over the kit's print); its parts marked 'own text' are typed by hand.
import Derived.Test.YtheheijhijeljaaGreatDoorHBracketWritesx0
import Derived.Test.YtheheijhijeljaaGreatDoorHBracketWritesx1
namespace Go.Proofs.YtheheijhijeljaaGreatDoor.HBracketWrites
open Go.RowKit Go.Proofs.YtheheijhijeljaaGreatDoorW.PrintWords Go.Proofs.YtheheijhijeljaaGreatDoorW.PrintLast Go.Proofs.YtheheijhijeljaaGreatDoorW.PrintMore
attribute [local go_sem] max2_int min2_int max_two min_two max_three min_three max_four min_four   -- for this text's walks alone
set_option linter.unusedVariables false
set_option linter.unusedSimpArgs false
attribute [local go_sem high] eqA36
def burinbook_SameRanges.l0 : Nat → List (S36) → List (S36) → Bool → Int → Option (Bool)
 | 0, _, _, _, _ => none
 | k + 1, x0, x1, x5, x6 => if x5 = true then (if x6 < (x0.length : Int) then (if 0 ≤ x6 then (if x6 < (x1.length : Int) then (burinbook_SameRanges.l0 k x0 x1 (((rd_T36 x0 x6).f0) == ((rd_T36 x1 x6).f0) && (((rd_T36 x0 x6).f1) == ((rd_T36 x1 x6).f1))) (wrap64 (x6 + 1))) else (none)) else (none)) else (some x5)) else (some x5)
def burinbook_SameRanges.f (k : Nat) (l0 : List (S36)) (l1 : List (S36)) : Option (Bool) := burinbook_SameRanges.l0 k l0 l1 ((l0.length : Int) == (l1.length : Int)) 0
theorem burinbook_SameRanges.mono_l : ∀ k, (∀ y0 y1 y2 y3, LeO (burinbook_SameRanges.l0 k y0 y1 y2 y3) (burinbook_SameRanges.l0 (k + 1) y0 y1 y2 y3))
 | 0 => fun _ _ _ _ r h => by simp [burinbook_SameRanges.l0] at h
 | k + 1 => by
  have ih0 := burinbook_SameRanges.mono_l k
  ·intro y0 y1 y2 y3
   unfold burinbook_SameRanges.l0
   repeat' first
   | (with_reducible exact ih0 _ _ _ _)
   | (with_reducible exact LeO.refl _)
   | (with_reducible exact LeO.none _)
   | (with_reducible refine LeO.ite ?_ ?_)
   | (with_reducible refine LeO.bind ?_ (fun _ => ?_))
   | exact ih0 _ _ _ _
   | exact LeO.none _
   | refine LeO.ite ?_ ?_
   | refine LeO.bind ?_ (fun _ => ?_)
theorem burinbook_SameRanges.mono : ∀ a0 a1 k, LeO (burinbook_SameRanges.f k a0 a1) (burinbook_SameRanges.f (k + 1) a0 a1) := by
 intro a0 a1 k
 have ih0 := burinbook_SameRanges.mono_l k
 unfold burinbook_SameRanges.f
 repeat' first
   | (with_reducible exact ih0 _ _ _ _)
   | (with_reducible exact LeO.refl _)
   | (with_reducible exact LeO.none _)
   | (with_reducible refine LeO.ite ?_ ?_)
   | (with_reducible refine LeO.bind ?_ (fun _ => ?_))
   | exact ih0 _ _ _ _
   | exact LeO.none _
   | refine LeO.ite ?_ ?_
   | refine LeO.bind ?_ (fun _ => ?_)
set_option maxHeartbeats 8000000 in
set_option maxRecDepth 100000 in
theorem burinbook_SameRanges.calls (k : Nat) (A0 : Option Addr) (c0 : Nat) (l0 : List (S36)) (A1 : Option Addr) (c1 : Nat) (l1 : List (S36)) (r : Bool) (w : World) (hr0 : Kd.C k36 w A0 l0.length l0) (hc0 : l0.length ≤ c0) (hr1 : Kd.C k36 w A1 l1.length l1) (hc1 : l1.length ≤ c1) (h : burinbook_SameRanges.f k l0 l1 = some r) :
  Calls Tryz.prog 13 #[.slice A0 l0.length c0, .slice A1 l1.length c1] w fun e w' => e = .returned (.bool r) ∧ Drawn0 w w' := by
 have hu36 := Tryz.underlying36
 have HR0 := Aside0.mk hr0
 have HC0 := Aside0.mk hc0
 clear hr0 hc0
 have HR1 := Aside0.mk hr1
 have HC1 := Aside0.mk hc1
 clear hr1 hc1
 have H : (burinbook_SameRanges.l0 k l0 l1 ((l0.length : Int) == (l1.length : Int)) 0) = some r := h
 clear h
 have H' := Aside0.mk H
 clear H
 go_enter Tryz.func13, Tryz.ntmps13
 go_wp2
 repeat (go_quiet (fail); try go_wp2)
 go_loopg [5, 6] k (fun kq v5 v6 w' => ∃ (x5_1 : Bool) (x6_1 : Int), v5 = .bool x5_1 ∧ v6 = .int .i64 x6_1 ∧ Aside0 (burinbook_SameRanges.l0 kq l0 l1 x5_1 x6_1 = some r) ∧ Aside0 (kq ≤ k) ∧ Drawn0 w w')
 case atStart => exact ⟨(((l0.length : Int) == (l1.length : Int))), (0), (by first | rfl | (simp; done) | (simp [*]; done)), (by first | rfl | (simp; done) | (simp [*]; done)), H', ⟨Nat.le_refl _⟩, by repeat (first | exact Drawn0.refl _ | apply Drawn0.step)⟩
 case round =>
  clear H'
  try clear c1
  try clear p2
  obtain ⟨x5_1, x6_1, rfl, rfl, HA, HK1, ⟨m1, rfl⟩⟩ := hrel
  cases gk with
  | zero => exact absurd HA.out (by simp [burinbook_SameRanges.l0])
  | succ k1 =>
   have H := HA.out
   clear HA
   simp only [burinbook_SameRanges.l0] at H
   by_cases c3 : x5_1 = true
   ·subst c3
    have H1 : (if x6_1 < (l0.length : Int) then (if 0 ≤ x6_1 then (if x6_1 < (l1.length : Int) then (burinbook_SameRanges.l0 k1 l0 l1 (((rd_T36 l0 x6_1).f0) == ((rd_T36 l1 x6_1).f0) && (((rd_T36 l0 x6_1).f1) == ((rd_T36 l1 x6_1).f1))) (wrap64 (x6_1 + 1))) else (none)) else (none)) else (some true)) = some r := by rw [if_pos rfl] at H; exact H
    clear H
    have H := H1
    clear H1
    by_cases c4 : x6_1 < (l0.length : Int)
    ·rw [if_pos c4] at H
     have c4b0 : decide (x6_1 < (l0.length : Int)) = true := decide_eq_true c4
     clear c4
     by_cases c5 : 0 ≤ x6_1
     ·rw [if_pos c5] at H
      have c5b0 : decide (0 ≤ x6_1) = true := decide_eq_true c5
      clear c5
      by_cases c6 : x6_1 < (l1.length : Int)
      ·rw [if_pos c6] at H
       have c6b0 : decide (x6_1 < (l1.length : Int)) = true := decide_eq_true c6
       clear c6
       have H' := Aside0.mk H
       clear H
       have p101 : 0 ≤ (x6_1 : Int) := of_decide_eq_true (by first | (with_reducible assumption) | assumption)
       have q101 : x6_1 < (l0.length : Int) := of_decide_eq_true (by first | (with_reducible assumption) | assumption)
       obtain ⟨ad101, e101, hx101_0, hx101_1⟩ := at_T36 HR0.out x6_1 p101 q101
       cases e101
       replace p101 := eq_true p101
       replace q101 := eq_true q101
       have p102 : 0 ≤ (x6_1 : Int) := of_decide_eq_true (by first | (with_reducible assumption) | assumption)
       have q102 : x6_1 < (l1.length : Int) := of_decide_eq_true (by first | (with_reducible assumption) | assumption)
       obtain ⟨ad102, e102, hx102_0, hx102_1⟩ := at_T36 HR1.out x6_1 p102 q102
       cases e102
       replace p102 := eq_true p102
       replace q102 := eq_true q102
       go_wp2
       repeat (go_quiet (fail); try go_wp2)
       go_roundg k1
       case measure => have := HK1.out; omega
       case rel => exact ⟨((((rd_T36 l0 x6_1).f0) == ((rd_T36 l1 x6_1).f0) && (((rd_T36 l0 x6_1).f1) == ((rd_T36 l1 x6_1).f1)))), (wrap64 (x6_1 + 1)), (by first | rfl | (simp; done) | (simp [*]; done)), (by first | rfl | (simp; done) | (simp [*]; done)), H', ⟨by have := HK1.out; omega⟩, by repeat (first | exact Drawn0.refl _ | apply Drawn0.step)⟩
      ·rw [if_neg c6] at H
       exact absurd H (by simp)
     ·rw [if_neg c5] at H
      exact absurd H (by simp)
    ·rw [if_neg c4] at H
     have c4b0 : decide (x6_1 < (l0.length : Int)) = false := decide_eq_false c4
     clear c4
     obtain rfl := Option.some.inj H
     go_wp2
     repeat (go_quiet (fail); try go_wp2)
     go_ret
     exact ⟨by first | rfl | (simp; done) | (simp [*]; done), by repeat (first | exact Drawn0.refl _ | apply Drawn0.step)⟩
   ·replace c3 := Bool.eq_false_iff.mpr c3
    subst c3
    have H1 : (some false) = some r := by rw [if_neg (show ¬ (false = true) by decide)] at H; exact H
    clear H
    have H := H1
    clear H1
    obtain rfl := Option.some.inj H
    go_wp2
    repeat (go_quiet (fail); try go_wp2)
    go_ret
    exact ⟨by first | rfl | (simp; done) | (simp [*]; done), by repeat (first | exact Drawn0.refl _ | apply Drawn0.step)⟩
-- own text
def ofRg (x : S36) : Int × Int := (x.f0, x.f1)
def toRg (x : Int × Int) : S36 := ⟨x.1, x.2⟩
theorem ofRg_toRg (x : Int × Int) : ofRg (toRg x) = x := rfl
theorem toRg_ofRg (x : S36) : toRg (ofRg x) = x := rfl
theorem rg_kd : k36 = Kd.iso Go.Proofs.YtheheijhijeljaaGreatDoorX.kRg ofRg := rfl
theorem rg_fixed : Go.Proofs.YtheheijhijeljaaGreatDoorX.Fixed k36 (fun x => Go.Proofs.YtheheijhijeljaaGreatDoorX.encRg (ofRg x)) where
 len _ := rfl
 out h := by
  obtain ⟨_, _, rfl, rfl, rfl⟩ := h
  rfl
 make _ _ _ x := ⟨[_], [_], rfl, rfl, rfl⟩
def ext_sortRange.f (l0 : List S36) (_a1 : Unit) : Option (List S36) := if l0.length < 4611686018427387904 then some ((Go.Proofs.YtheheijhijeljaaGreatDoorX.sortLo (l0.map ofRg)).map toRg) else none
theorem ext_sortRange.calls (P0_ : Nat → Prop) (u9000_ : Value) (l0 : List S36) (a1 : Unit) (r : List S36) (w0 w : World) (hB : Below w0.heap.size w0 w) (ho0 : Kd.R k36 36 w w0.heap.size P0_ u9000_ l0) (h : ext_sortRange.f l0 a1 = some r) :
  Calls Tryz.prog 40 #[u9000_, .func (.func 41) #[] #[]] w fun e w' => e = .returned (.tuple #[]) ∧ Kd.R k36 36 w' w0.heap.size (fun k_ => (P0_ k_ ∨ w.heap.size ≤ k_)) u9000_ r ∧ Below w0.heap.size w0 w' ∧ Kept w w' (fun k_ => P0_ k_) := by
 unfold ext_sortRange.f at h
 split at h
 ·rename_i hs
  obtain rfl := Option.some.inj h
  exact Go.Proofs.YtheheijhijeljaaGreatDoorX.sortRange_calls ofRg toRg ofRg_toRg rg_fixed P0_ u9000_ l0 w0 w hB ho0 hs
 ·cases h
end Go.Proofs.YtheheijhijeljaaGreatDoor.HBracketWrites

