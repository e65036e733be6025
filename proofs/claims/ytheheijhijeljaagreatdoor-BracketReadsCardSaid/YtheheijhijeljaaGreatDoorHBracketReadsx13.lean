-- Made by wip/hyb (a program of this session over the kit's print); its parts marked 'own text' are typed by hand.
import Derived.Test.YtheheijhijeljaaGreatDoorHBracketReadsx3
import Derived.Test.YtheheijhijeljaaGreatDoorHBracketReadsx6
import Derived.Test.YtheheijhijeljaaGreatDoorHBracketReadsx11
namespace Go.Proofs.YtheheijhijeljaaGreatDoor.HBracketReads
open Go.RowKit Go.Proofs.YtheheijhijeljaaGreatDoorW.PrintWords Go.Proofs.YtheheijhijeljaaGreatDoorW.PrintLast Go.Proofs.YtheheijhijeljaaGreatDoorW.PrintMore
attribute [local go_sem] max2_int min2_int max_two min_two max_three min_three max_four min_four   -- for this text's walks alone
set_option linter.unusedVariables false
set_option linter.unusedSimpArgs false
def burinlaw07_works.f (k : Nat)  : Option (Bool) := (bracket_Bracket.f k (⟨#[91, 94, 97, 45, 99, 92, 100, 93, 120]⟩ : ByteArray) 0).bind fun bt219 => ((bracket_Bracket.f k (⟨#[91, 93, 45, 93]⟩ : ByteArray) 0).bind fun bt224 => ((ranges_Not.f k (([(⟨48, 57⟩ : S36), (⟨97, 99⟩ : S36)] : List (S36)))).bind fun t232 => ((burinbook_SameRanges.f k bt219.1 t232).bind fun t235 => (if t235 = true then (if bt219.2.1 = 8 then (if bt219.2.2 = 0 then ((burinbook_SameRanges.f k bt224.1 (([(⟨45, 45⟩ : S36), (⟨93, 93⟩ : S36)] : List (S36)))).bind fun t239 => (if t239 = true then (if bt224.2.1 = 4 then (some (bt224.2.2 == 0)) else (some false)) else (some false))) else (some false)) else (some false)) else (some false)))))
theorem burinlaw07_works.mono : ∀ k, LeO (burinlaw07_works.f k ) (burinlaw07_works.f (k + 1) ) := by
 intro  k
 unfold burinlaw07_works.f
 repeat' first
   | (with_reducible exact bracket_Bracket.mono _ _ _)
   | (with_reducible exact burinbook_SameRanges.mono _ _ _)
   | (with_reducible exact ranges_Not.mono _ _)
   | (with_reducible exact LeO.refl _)
   | (with_reducible exact LeO.none _)
   | (with_reducible refine LeO.ite ?_ ?_)
   | (with_reducible refine LeO.bind ?_ (fun _ => ?_))
   | exact bracket_Bracket.mono _ _ _
   | exact burinbook_SameRanges.mono _ _ _
   | exact ranges_Not.mono _ _
   | exact LeO.none _
   | refine LeO.ite ?_ ?_
   | refine LeO.bind ?_ (fun _ => ?_)
set_option maxHeartbeats 8000000 in
set_option maxRecDepth 100000 in
theorem burinlaw07_works.calls (k : Nat)  (r : Bool) (w : World) (hM : MaxAt w) (h : burinlaw07_works.f k  = some r) (hr : r = true) :
  Calls Tryz.prog 8 #[] w fun e w' => e = .returned (.bool r) ∧ Below w.heap.size w w' := by
 have HM := Aside0.mk hM
 clear hM
 have hu36 := Tryz.underlying36
 have HB := Aside0.mk (Below.refl w.heap.size w)
 have H : ((bracket_Bracket.f k (⟨#[91, 94, 97, 45, 99, 92, 100, 93, 120]⟩ : ByteArray) 0).bind fun bt219 => ((bracket_Bracket.f k (⟨#[91, 93, 45, 93]⟩ : ByteArray) 0).bind fun bt224 => ((ranges_Not.f k (([(⟨48, 57⟩ : S36), (⟨97, 99⟩ : S36)] : List (S36)))).bind fun t232 => ((burinbook_SameRanges.f k bt219.1 t232).bind fun t235 => (if t235 = true then (if bt219.2.1 = 8 then (if bt219.2.2 = 0 then ((burinbook_SameRanges.f k bt224.1 (([(⟨45, 45⟩ : S36), (⟨93, 93⟩ : S36)] : List (S36)))).bind fun t239 => (if t239 = true then (if bt224.2.1 = 4 then (some (bt224.2.2 == 0)) else (some false)) else (some false))) else (some false)) else (some false)) else (some false)))))) = some r := h
 clear h
 replace H := Option.bind_eq_some_iff.mp H
 obtain ⟨⟨t219, t220, t221⟩, A10, H⟩ := H
 try dsimp only at H
 have A1 := Aside0.mk A10
 clear A10
 replace H := Option.bind_eq_some_iff.mp H
 obtain ⟨⟨t224, t225, t226⟩, A20, H⟩ := H
 try dsimp only at H
 have A2 := Aside0.mk A20
 clear A20
 obtain ⟨y229, hy229⟩ : ∃ y_ : List (S36), y_ = (([(⟨48, 57⟩ : S36), (⟨97, 99⟩ : S36)] : List (S36))) := ⟨_, rfl⟩
 rw [← hy229] at H
 try rw [Option.bind_some] at H
 have Ny229 := Aside0.mk hy229
 clear hy229
 replace H := Option.bind_eq_some_iff.mp H
 obtain ⟨t232, A30, H⟩ := H
 try dsimp only at H
 have A3 := Aside0.mk A30
 clear A30
 replace H := Option.bind_eq_some_iff.mp H
 obtain ⟨t235, A40, H⟩ := H
 try dsimp only at H
 have A4 := Aside0.mk A40
 clear A40
 by_cases c5 : t235 = true
 ·subst c5
  rw [if_pos rfl] at H
  by_cases c6 : t220 = 8
  ·rw [if_pos c6] at H
   have c6b0 := beq_iff_eq.mpr c6
   have c6b1 := bne_eq_false_iff_eq.mpr c6
   clear c6
   by_cases c7 : t221 = 0
   ·rw [if_pos c7] at H
    have c7b0 := beq_iff_eq.mpr c7
    have c7b1 := bne_eq_false_iff_eq.mpr c7
    clear c7
    obtain ⟨y236, hy236⟩ : ∃ y_ : List (S36), y_ = (([(⟨45, 45⟩ : S36), (⟨93, 93⟩ : S36)] : List (S36))) := ⟨_, rfl⟩
    rw [← hy236] at H
    try rw [Option.bind_some] at H
    have Ny236 := Aside0.mk hy236
    clear hy236
    replace H := Option.bind_eq_some_iff.mp H
    obtain ⟨t239, A80, H⟩ := H
    try dsimp only at H
    have A8 := Aside0.mk A80
    clear A80
    by_cases c9 : t239 = true
    ·subst c9
     rw [if_pos rfl] at H
     by_cases c10 : t225 = 4
     ·rw [if_pos c10] at H
      have c10b0 := beq_iff_eq.mpr c10
      have c10b1 := bne_eq_false_iff_eq.mpr c10
      clear c10
      obtain rfl := Option.some.inj H
      clear hr
      go_enter Tryz.func8, Tryz.ntmps8
      go_wp2_with (first | ((with_reducible refine gate_callee (f := 14) rfl ?_); refine goesL_ (some 9) rfl rfl Tryz.func14 kz rfl #[.string (⟨#[91, 94, 97, 45, 99, 92, 100, 93, 120]⟩ : ByteArray), .int .i64 0] rfl mz ?_; (with_reducible refine (bracket_Bracket.calls (hM := MaxAt.below HM.out bz) k (⟨#[91, 94, 97, 45, 99, 92, 100, 93, 120]⟩ : ByteArray) 0 t219 t220 t221 _ A1.out).mono ?_); rintro e w11 ⟨v222, rfl, ho0, hb⟩; refine ⟨_, rfl, ?_⟩; have HO223 := Aside0.mk (Kd.R_lower ho0 (below_size bz)); replace HB := hz hb; (try clear hb); (try clear ho0)) | ((with_reducible refine gate_callee (f := 14) rfl ?_); refine goesL_ (some 14) rfl rfl Tryz.func14 kz rfl #[.string (⟨#[91, 93, 45, 93]⟩ : ByteArray), .int .i64 0] rfl mz ?_; (with_reducible refine (bracket_Bracket.calls (hM := MaxAt.below HM.out bz) k (⟨#[91, 93, 45, 93]⟩ : ByteArray) 0 t224 t225 t226 _ A2.out).mono ?_); rintro e w12 ⟨v227, rfl, ho0, hb⟩; refine ⟨_, rfl, ?_⟩; have HO228 := Aside0.mk (Kd.R_lower (Kd.R_new' ho0 (Kd.R_lt (rz HO223.out))) (below_size bz)); replace HO223 := Aside0.mk (Kd.R_elder' (rz HO223.out) (Kd.R_base ho0) hb); replace HB := hz hb; (try clear hb); (try clear ho0)) | ((with_reducible refine gate_dst (N := 20) rfl ?_); (try (refine gate_guard (by rfl) ?_; dsimp only)); refine Kd.R_lit k36 _ 36 ?hg (N := 20) ?hd (xs := ([(⟨48, 57⟩ : S36), (⟨97, 99⟩ : S36)] : List (S36))) (inner := [.int .i64 48, .int .i64 57, .int .i64 97, .int .i64 99]) (ok := fun _ => True) (okp := fun _ => True) ?hr ?hp (fun _ hk => hk) trivial (Below.refl _ _) (Nat.le_refl _) (by simp) ?_; (case hd => rfl); (case hg => rfl); (case hr => first | (go_simp; done) | (go_simp; rfl)); (case hp => exact (Reps.c2 (k36_mkM _ _ _ _) (Reps.c2 (k36_mkM _ _ _ _) (Reps.none _ _)))); intro v230 w13 ho14 hb hg_ hnew_; clear hg_ hnew_; (first | rw [← Ny229.out] at ho14 | (simp only [Int.reduceToNat] at ho14; rw [← Ny229.out] at ho14)); have HO231 := Aside0.mk (Kd.R_lower (Kd.R_new' (Kd.R_new' ho14 (Kd.R_lt (rz HO223.out))) (Kd.R_lt (rz HO228.out))) (below_size bz)); replace HO223 := Aside0.mk (Kd.R_elder' (rz HO223.out) (Kd.R_base ho14) hb); replace HO228 := Aside0.mk (Kd.R_elder' (rz HO228.out) (Kd.R_base ho14) hb); replace HB := hz hb; clear hb ho14; obtain ⟨Ao15, co15, eo15⟩ := Kd.R_slice HO231.out; subst eo15) | ((with_reducible refine gate_callee (f := 19) rfl ?_); refine goesL_ (some 21) rfl rfl Tryz.func19 kz rfl #[.slice Ao15 y229.length co15] rfl mz ?_; (with_reducible refine (ranges_Not.calls k _ _ y229 t232 _ ?side1 ?side2 A3.out).mono ?_); (case side1 => exact cz (Kd.R_reads' HO231.out).2.2); (case side2 => exact (Kd.R_reads' HO231.out).2.1); rintro e w16 ⟨v233, rfl, ho0, hb⟩; refine ⟨_, rfl, ?_⟩; have HO234 := Aside0.mk (Kd.R_lower (Kd.R_new' (Kd.R_new' (Kd.R_new' ho0 (Kd.R_lt (rz HO223.out))) (Kd.R_lt (rz HO228.out))) (Kd.R_lt (rz HO231.out))) (below_size bz)); replace HO223 := Aside0.mk (Kd.R_elder' (rz HO223.out) (Kd.R_base ho0) hb); replace HO228 := Aside0.mk (Kd.R_elder' (rz HO228.out) (Kd.R_base ho0) hb); replace HO231 := Aside0.mk (Kd.R_elder' (rz HO231.out) (Kd.R_base ho0) hb); replace HB := hz hb; (try clear hb); (try clear ho0); obtain ⟨Ao17, co17, eo17⟩ := Kd.R_slice HO223.out; subst eo17; obtain ⟨Ao18, co18, eo18⟩ := Kd.R_slice HO234.out; subst eo18) | ((with_reducible refine gate_callee (f := 13) rfl ?_); refine goesL_ (some 24) rfl rfl Tryz.func13 kz rfl #[.slice Ao17 t219.length co17, .slice Ao18 t232.length co18] rfl mz ?_; (with_reducible refine (burinbook_SameRanges.calls k _ _ t219 _ _ t232 true _ ?side1 ?side2 ?side3 ?side4 A4.out).mono ?_); (case side1 => exact cz (Kd.R_reads' HO223.out).2.2); (case side2 => exact (Kd.R_reads' HO223.out).2.1); (case side3 => exact cz (Kd.R_reads' HO234.out).2.2); (case side4 => exact (Kd.R_reads' HO234.out).2.1); rintro e w' ⟨rfl, ⟨nd, rfl⟩⟩; refine ⟨_, rfl, ?_⟩) | ((with_reducible refine gate_dst (N := 37) rfl ?_); (try (refine gate_guard (by rfl) ?_; dsimp only)); refine Kd.R_lit k36 _ 36 ?hg (N := 37) ?hd (xs := ([(⟨45, 45⟩ : S36), (⟨93, 93⟩ : S36)] : List (S36))) (inner := [.int .i64 45, .int .i64 45, .int .i64 93, .int .i64 93]) (ok := fun _ => True) (okp := fun _ => True) ?hr ?hp (fun _ hk => hk) trivial (Below.refl _ _) (Nat.le_refl _) (by simp) ?_; (case hd => rfl); (case hg => rfl); (case hr => first | (go_simp; done) | (go_simp; rfl)); (case hp => exact (Reps.c2 (k36_mkM _ _ _ _) (Reps.c2 (k36_mkM _ _ _ _) (Reps.none _ _)))); intro v237 w19 ho20 hb hg_ hnew_; clear hg_ hnew_; (first | rw [← Ny236.out] at ho20 | (simp only [Int.reduceToNat] at ho20; rw [← Ny236.out] at ho20)); have HO238 := Aside0.mk (Kd.R_lower (Kd.R_new' (Kd.R_new' (Kd.R_new' (Kd.R_new' ho20 (Kd.R_lt (rz HO223.out))) (Kd.R_lt (rz HO228.out))) (Kd.R_lt (rz HO231.out))) (Kd.R_lt (rz HO234.out))) (below_size bz)); replace HO223 := Aside0.mk (Kd.R_elder' (rz HO223.out) (Kd.R_base ho20) hb); replace HO228 := Aside0.mk (Kd.R_elder' (rz HO228.out) (Kd.R_base ho20) hb); replace HO231 := Aside0.mk (Kd.R_elder' (rz HO231.out) (Kd.R_base ho20) hb); replace HO234 := Aside0.mk (Kd.R_elder' (rz HO234.out) (Kd.R_base ho20) hb); replace HB := hz hb; clear hb ho20; obtain ⟨Ao21, co21, eo21⟩ := Kd.R_slice HO228.out; subst eo21; obtain ⟨Ao22, co22, eo22⟩ := Kd.R_slice HO238.out; subst eo22) | (go_at_call 13; (with_reducible refine (burinbook_SameRanges.calls k _ _ t224 _ _ y236 true _ ?side1 ?side2 ?side3 ?side4 A8.out).mono ?_); (case side1 => exact cz (Kd.R_reads' HO228.out).2.2); (case side2 => exact (Kd.R_reads' HO228.out).2.1); (case side3 => exact cz (Kd.R_reads' HO238.out).2.2); (case side4 => exact (Kd.R_reads' HO238.out).2.1); rintro e w' ⟨rfl, ⟨nd, rfl⟩⟩))
      go_ret
      exact ⟨fz, bz⟩
     rw [if_neg c10] at H
     have c10b0 := beq_eq_false_iff_ne.mpr c10
     have c10b1 := bne_iff_ne.mpr c10
     exact absurd (Option.some.inj H) (by rw [hr]; decide)
    replace c9 := Bool.eq_false_iff.mpr c9
    subst c9
    rw [if_neg (show ¬ (false = true) by decide)] at H
    exact absurd (Option.some.inj H) (by rw [hr]; decide)
   rw [if_neg c7] at H
   have c7b0 := beq_eq_false_iff_ne.mpr c7
   have c7b1 := bne_iff_ne.mpr c7
   exact absurd (Option.some.inj H) (by rw [hr]; decide)
  rw [if_neg c6] at H
  have c6b0 := beq_eq_false_iff_ne.mpr c6
  have c6b1 := bne_iff_ne.mpr c6
  exact absurd (Option.some.inj H) (by rw [hr]; decide)
 replace c5 := Bool.eq_false_iff.mpr c5
 subst c5
 rw [if_neg (show ¬ (false = true) by decide)] at H
 exact absurd (Option.some.inj H) (by rw [hr]; decide)
mutual
def burinref02_Has.l0 : Nat → List (S36) → Int → Int → Option (Bool)
 | 0, _, _, _ => none
 | k + 1, x0, x1, x5 => if x5 < (x0.length : Int) then (if x1 ≥ 0 then (burinref02_Has.j1 k x0 x1 x5 (decide (x1 ≤ 1114111))) else (burinref02_Has.j1 k x0 x1 x5 false)) else (burinref02_Has.j1 k x0 x1 x5 false)
def burinref02_Has.j1 : Nat → List (S36) → Int → Int → Bool → Option (Bool)
 | 0, _, _, _, _ => none
 | k + 1, x0, x1, x5, x17 => if x17 = true then (if 0 ≤ x5 then (if x5 < (x0.length : Int) then (if ((rd_T36 x0 x5).f0) ≤ x1 then (if x1 ≤ ((rd_T36 x0 x5).f1) then (some true) else (burinref02_Has.l0 k x0 x1 (wrap64 (x5 + 1)))) else (burinref02_Has.l0 k x0 x1 (wrap64 (x5 + 1)))) else (none)) else (none)) else (some false)
end
def burinref02_Has.f (k : Nat) (l0 : List (S36)) (a1 : Int) : Option (Bool) := burinref02_Has.l0 k l0 a1 0
theorem burinref02_Has.mono_l : ∀ k, (∀ y0 y1 y2, LeO (burinref02_Has.l0 k y0 y1 y2) (burinref02_Has.l0 (k + 1) y0 y1 y2)) ∧ (∀ y0 y1 y2 y3, LeO (burinref02_Has.j1 k y0 y1 y2 y3) (burinref02_Has.j1 (k + 1) y0 y1 y2 y3))
 | 0 => ⟨fun _ _ _ r h => by simp [burinref02_Has.l0] at h, fun _ _ _ _ r h => by simp [burinref02_Has.j1] at h⟩
 | k + 1 => by
  obtain ⟨ih0, ih1⟩ := burinref02_Has.mono_l k
  refine ⟨?_, ?_⟩
  ·intro y0 y1 y2
   unfold burinref02_Has.l0
   repeat' first
   | (with_reducible exact ih0 _ _ _)
   | (with_reducible exact ih1 _ _ _ _)
   | (with_reducible exact LeO.refl _)
   | (with_reducible exact LeO.none _)
   | (with_reducible refine LeO.ite ?_ ?_)
   | (with_reducible refine LeO.bind ?_ (fun _ => ?_))
   | exact ih0 _ _ _
   | exact ih1 _ _ _ _
   | exact LeO.none _
   | refine LeO.ite ?_ ?_
   | refine LeO.bind ?_ (fun _ => ?_)
  intro y0 y1 y2 y3
  unfold burinref02_Has.j1
  repeat' first
  | (with_reducible exact ih0 _ _ _)
  | (with_reducible exact ih1 _ _ _ _)
  | (with_reducible exact LeO.refl _)
  | (with_reducible exact LeO.none _)
  | (with_reducible refine LeO.ite ?_ ?_)
  | (with_reducible refine LeO.bind ?_ (fun _ => ?_))
  | exact ih0 _ _ _
  | exact ih1 _ _ _ _
  | exact LeO.none _
  | refine LeO.ite ?_ ?_
  | refine LeO.bind ?_ (fun _ => ?_)
theorem burinref02_Has.mono : ∀ a0 a1 k, LeO (burinref02_Has.f k a0 a1) (burinref02_Has.f (k + 1) a0 a1) := by
 intro a0 a1 k
 obtain ⟨ih0, ih1⟩ := burinref02_Has.mono_l k
 unfold burinref02_Has.f
 repeat' first
   | (with_reducible exact ih0 _ _ _)
   | (with_reducible exact ih1 _ _ _ _)
   | (with_reducible exact LeO.refl _)
   | (with_reducible exact LeO.none _)
   | (with_reducible refine LeO.ite ?_ ?_)
   | (with_reducible refine LeO.bind ?_ (fun _ => ?_))
   | exact ih0 _ _ _
   | exact ih1 _ _ _ _
   | exact LeO.none _
   | refine LeO.ite ?_ ?_
   | refine LeO.bind ?_ (fun _ => ?_)
set_option maxHeartbeats 8000000 in
set_option maxRecDepth 100000 in
theorem burinref02_Has.calls (k : Nat) (A0 : Option Addr) (c0 : Nat) (l0 : List (S36)) (a1 : Int) (r : Bool) (w : World) (hr0 : Kd.C k36 w A0 l0.length l0) (hc0 : l0.length ≤ c0) (h : burinref02_Has.f k l0 a1 = some r) :
  Calls Tryz.prog 75 #[.slice A0 l0.length c0, .int .i64 a1] w fun e w' => e = .returned (.bool r) ∧ Drawn0 w w' := by
 have HR0 := Aside0.mk hr0
 have HC0 := Aside0.mk hc0
 clear hr0 hc0
 have H : (burinref02_Has.l0 k l0 a1 0) = some r := h
 clear h
 have H' := Aside0.mk H
 clear H
 go_enter Tryz.func75, Tryz.ntmps75
 go_wp2
 go_loopg [5] k (fun kq v5 w' => ∃ (x5_1 : Int), v5 = .int .i64 x5_1 ∧ Aside0 (burinref02_Has.l0 kq l0 a1 x5_1 = some r) ∧ Aside0 (kq ≤ k) ∧ Drawn0 w w')
 case atStart => exact ⟨(0), ez, H', ⟨Nat.le_refl _⟩, dz⟩
 clear H'
 try clear p2
 obtain ⟨x5_1, rfl, HA, HK1, ⟨m1, rfl⟩⟩ := hrel
 cases gk with
 | zero => exact absurd HA.out (by simp [burinref02_Has.l0])
 | succ k1 =>
  have H := HA.out
  clear HA
  simp only [burinref02_Has.l0] at H
  have HC3 := Aside0.mk H
  clear H
  go_upto_region 2 with (fail)
  go_cut [17] (fun v17 wc => ∃ (kq : Nat) (x17_2 : Bool), v17 = .bool x17_2 ∧ Aside0 (burinref02_Has.j1 kq l0 a1 x5_1 x17_2 = some r) ∧ Aside0 (kq ≤ k1) ∧ Drawn0 w wc)
  case first =>
   have H := HC3.out
   clear HC3
   by_cases c4 : x5_1 < (l0.length : Int)
   ·rw [if_pos c4] at H
    have c4b0 := decide_eq_true c4
    clear c4
    (first | rw [c4b0] | (simp only [i64_w, i32_w]; rw [c4b0]) | skip)
    by_cases c5 : a1 ≥ 0
    ·rw [if_pos c5] at H
     have c5b0 : decide (0 ≤ a1) = true := decide_eq_true c5
     clear c5
     have H' := Aside0.mk H
     clear H
     go_wp2
     go_meet
     case rel => exact ⟨_, (decide (a1 ≤ 1114111)), ez, H', ⟨by have := HK1.out; first | omega | exact Nat.le_refl _⟩, dz⟩
    rw [if_neg c5] at H
    have c5b0 : decide (0 ≤ a1) = false := decide_eq_false c5
    clear c5
    have H' := Aside0.mk H
    clear H
    go_wp2
    go_meet
    case rel => exact ⟨_, (false), ez, H', ⟨by have := HK1.out; first | omega | exact Nat.le_refl _⟩, dz⟩
   rw [if_neg c4] at H
   have c4b0 := decide_eq_false c4
   clear c4
   (first | rw [c4b0] | (simp only [i64_w, i32_w]; rw [c4b0]) | skip)
   have H' := Aside0.mk H
   clear H
   go_wp2
   go_meet
   case rel => exact ⟨_, (false), ez, H', ⟨by have := HK1.out; first | omega | exact Nat.le_refl _⟩, dz⟩
  clear HC3
  try clear p2
  try clear c4
  try clear c4b0
  try clear c5
  try clear c5b0
  try clear p2
  obtain ⟨kq, x17_2, rfl, HA, HJ2, ⟨mc2, rfl⟩⟩ := hcut
  cases kq with
  | zero => exact absurd HA.out (by simp [burinref02_Has.j1])
  | succ kj2 =>
   have H := HA.out
   clear HA
   simp only [burinref02_Has.j1] at H
   by_cases c6 : x17_2 = true
   ·subst c6
    rw [if_pos rfl] at H
    by_cases c7 : 0 ≤ x5_1
    rotate_left
    ·exact nomatch (if_neg c7).symm.trans H
    rw [if_pos c7] at H
    have c7b0 := decide_eq_true c7
    clear c7
    by_cases c8 : x5_1 < (l0.length : Int)
    rotate_left
    ·exact nomatch (if_neg c8).symm.trans H
    rw [if_pos c8] at H
    have c8b0 := decide_eq_true c8
    clear c8
    by_cases c9 : ((rd_T36 l0 x5_1).f0) ≤ a1
    ·rw [if_pos c9] at H
     have c9b0 := decide_eq_true c9
     clear c9
     by_cases c10 : a1 ≤ ((rd_T36 l0 x5_1).f1)
     ·rw [if_pos c10] at H
      have c10b0 := decide_eq_true c10
      clear c10
      obtain rfl := Option.some.inj H
      have p240 : 0 ≤ (x5_1 : Int) := oz
      have q240 : x5_1 < (l0.length : Int) := oz
      obtain ⟨ad240, e240, hx240_0, hx240_1⟩ := at_T36 HR0.out x5_1 p240 q240
      cases e240
      replace p240 := eq_true p240
      replace q240 := eq_true q240
      have p241 : 0 ≤ (x5_1 : Int) := oz
      have q241 : x5_1 < (l0.length : Int) := oz
      obtain ⟨ad241, e241, hx241_0, hx241_1⟩ := at_T36 HR0.out x5_1 p241 q241
      obtain rfl : ad240 = ad241 := (by injection e241)
      replace p241 := eq_true p241
      replace q241 := eq_true q241
      go_wp2
      go_ret
      exact ⟨ez, dz⟩
     rw [if_neg c10] at H
     have c10b0 := decide_eq_false c10
     clear c10
     have H' := Aside0.mk H
     clear H
     have p240 : 0 ≤ (x5_1 : Int) := oz
     have q240 : x5_1 < (l0.length : Int) := oz
     obtain ⟨ad240, e240, hx240_0, hx240_1⟩ := at_T36 HR0.out x5_1 p240 q240
     cases e240
     replace p240 := eq_true p240
     replace q240 := eq_true q240
     have p241 : 0 ≤ (x5_1 : Int) := oz
     have q241 : x5_1 < (l0.length : Int) := oz
     obtain ⟨ad241, e241, hx241_0, hx241_1⟩ := at_T36 HR0.out x5_1 p241 q241
     obtain rfl : ad240 = ad241 := (by injection e241)
     replace p241 := eq_true p241
     replace q241 := eq_true q241
     go_wp2
     go_roundg kj2
     case measure => have := HK1.out; have := HJ2.out; omega
     case rel => exact ⟨(wrap64 (x5_1 + 1)), ez, H', ⟨by have := HK1.out; have := HJ2.out; omega⟩, dz⟩
    rw [if_neg c9] at H
    have c9b0 := decide_eq_false c9
    clear c9
    have H' := Aside0.mk H
    clear H
    have p240 : 0 ≤ (x5_1 : Int) := oz
    have q240 : x5_1 < (l0.length : Int) := oz
    obtain ⟨ad240, e240, hx240_0, hx240_1⟩ := at_T36 HR0.out x5_1 p240 q240
    cases e240
    replace p240 := eq_true p240
    replace q240 := eq_true q240
    go_wp2
    go_roundg kj2
    case measure => have := HK1.out; have := HJ2.out; omega
    case rel => exact ⟨(wrap64 (x5_1 + 1)), ez, H', ⟨by have := HK1.out; have := HJ2.out; omega⟩, dz⟩
   replace c6 := Bool.eq_false_iff.mpr c6
   subst c6
   rw [if_neg (show ¬ (false = true) by decide)] at H
   obtain rfl := Option.some.inj H
   go_wp2
   go_ret
   exact ⟨ez, dz⟩
mutual
def burinref02_edge.l0 : Nat → List (S36) → Int → Int → Int → Option (Int)
 | 0, _, _, _, _ => none
 | k + 1, x0, x1, x5, x6 => if x6 < (x0.length : Int) then (if 0 ≤ x6 then (if ((rd_T36 x0 x6).f0) > x1 then (burinref02_edge.j1 k x0 x1 x5 x6 (decide (((rd_T36 x0 x6).f0) < x5))) else (burinref02_edge.j1 k x0 x1 x5 x6 false)) else (none)) else (some x5)
def burinref02_edge.j1 : Nat → List (S36) → Int → Int → Int → Bool → Option (Int)
 | 0, _, _, _, _, _ => none
 | k + 1, x0, x1, x5, x6, x28 => if x28 = true then (if 0 ≤ x6 then (if x6 < (x0.length : Int) then (if ((rd_T36 x0 x6).f1) ≥ x1 then (if ((rd_T36 x0 x6).f1) < 1114111 then (if (wrap64 (((rd_T36 x0 x6).f1) + 1)) < ((rd_T36 x0 x6).f0) then (burinref02_edge.l0 k x0 x1 (wrap64 (((rd_T36 x0 x6).f1) + 1)) (wrap64 (x6 + 1))) else (burinref02_edge.l0 k x0 x1 ((rd_T36 x0 x6).f0) (wrap64 (x6 + 1)))) else (burinref02_edge.l0 k x0 x1 ((rd_T36 x0 x6).f0) (wrap64 (x6 + 1)))) else (burinref02_edge.l0 k x0 x1 ((rd_T36 x0 x6).f0) (wrap64 (x6 + 1)))) else (none)) else (none)) else (if 0 ≤ x6 then (if x6 < (x0.length : Int) then (if ((rd_T36 x0 x6).f1) ≥ x1 then (if ((rd_T36 x0 x6).f1) < 1114111 then (if (wrap64 (((rd_T36 x0 x6).f1) + 1)) < x5 then (burinref02_edge.l0 k x0 x1 (wrap64 (((rd_T36 x0 x6).f1) + 1)) (wrap64 (x6 + 1))) else (burinref02_edge.l0 k x0 x1 x5 (wrap64 (x6 + 1)))) else (burinref02_edge.l0 k x0 x1 x5 (wrap64 (x6 + 1)))) else (burinref02_edge.l0 k x0 x1 x5 (wrap64 (x6 + 1)))) else (none)) else (none))
end
def burinref02_edge.f (k : Nat) (l0 : List (S36)) (a1 : Int) : Option (Int) := burinref02_edge.l0 k l0 a1 1114112 0
theorem burinref02_edge.mono_l : ∀ k, (∀ y0 y1 y2 y3, LeO (burinref02_edge.l0 k y0 y1 y2 y3) (burinref02_edge.l0 (k + 1) y0 y1 y2 y3)) ∧ (∀ y0 y1 y2 y3 y4, LeO (burinref02_edge.j1 k y0 y1 y2 y3 y4) (burinref02_edge.j1 (k + 1) y0 y1 y2 y3 y4))
 | 0 => ⟨fun _ _ _ _ r h => by simp [burinref02_edge.l0] at h, fun _ _ _ _ _ r h => by simp [burinref02_edge.j1] at h⟩
 | k + 1 => by
  obtain ⟨ih0, ih1⟩ := burinref02_edge.mono_l k
  refine ⟨?_, ?_⟩
  ·intro y0 y1 y2 y3
   unfold burinref02_edge.l0
   repeat' first
   | (with_reducible exact ih0 _ _ _ _)
   | (with_reducible exact ih1 _ _ _ _ _)
   | (with_reducible exact LeO.refl _)
   | (with_reducible exact LeO.none _)
   | (with_reducible refine LeO.ite ?_ ?_)
   | (with_reducible refine LeO.bind ?_ (fun _ => ?_))
   | exact ih0 _ _ _ _
   | exact ih1 _ _ _ _ _
   | exact LeO.none _
   | refine LeO.ite ?_ ?_
   | refine LeO.bind ?_ (fun _ => ?_)
  intro y0 y1 y2 y3 y4
  unfold burinref02_edge.j1
  repeat' first
  | (with_reducible exact ih0 _ _ _ _)
  | (with_reducible exact ih1 _ _ _ _ _)
  | (with_reducible exact LeO.refl _)
  | (with_reducible exact LeO.none _)
  | (with_reducible refine LeO.ite ?_ ?_)
  | (with_reducible refine LeO.bind ?_ (fun _ => ?_))
  | exact ih0 _ _ _ _
  | exact ih1 _ _ _ _ _
  | exact LeO.none _
  | refine LeO.ite ?_ ?_
  | refine LeO.bind ?_ (fun _ => ?_)
theorem burinref02_edge.mono : ∀ a0 a1 k, LeO (burinref02_edge.f k a0 a1) (burinref02_edge.f (k + 1) a0 a1) := by
 intro a0 a1 k
 obtain ⟨ih0, ih1⟩ := burinref02_edge.mono_l k
 unfold burinref02_edge.f
 repeat' first
   | (with_reducible exact ih0 _ _ _ _)
   | (with_reducible exact ih1 _ _ _ _ _)
   | (with_reducible exact LeO.refl _)
   | (with_reducible exact LeO.none _)
   | (with_reducible refine LeO.ite ?_ ?_)
   | (with_reducible refine LeO.bind ?_ (fun _ => ?_))
   | exact ih0 _ _ _ _
   | exact ih1 _ _ _ _ _
   | exact LeO.none _
   | refine LeO.ite ?_ ?_
   | refine LeO.bind ?_ (fun _ => ?_)
set_option maxHeartbeats 8000000 in
set_option maxRecDepth 100000 in
theorem burinref02_edge.calls (k : Nat) (A0 : Option Addr) (c0 : Nat) (l0 : List (S36)) (a1 : Int) (r : Int) (w : World) (hr0 : Kd.C k36 w A0 l0.length l0) (hc0 : l0.length ≤ c0) (h : burinref02_edge.f k l0 a1 = some r) :
  Calls Tryz.prog 95 #[.slice A0 l0.length c0, .int .i64 a1] w fun e w' => e = .returned (.int .i64 r) ∧ Drawn0 w w' := by
 have HR0 := Aside0.mk hr0
 have HC0 := Aside0.mk hc0
 clear hr0 hc0
 have H : (burinref02_edge.l0 k l0 a1 1114112 0) = some r := h
 clear h
 have H' := Aside0.mk H
 clear H
 go_enter Tryz.func95, Tryz.ntmps95
 go_wp2
 go_loopg [5, 6] k (fun kq v5 v6 w' => ∃ (x5_1 : Int) (x6_1 : Int), v5 = .int .i64 x5_1 ∧ v6 = .int .i64 x6_1 ∧ Aside0 (burinref02_edge.l0 kq l0 a1 x5_1 x6_1 = some r) ∧ Aside0 (kq ≤ k) ∧ Drawn0 w w')
 case atStart => exact ⟨(1114112), (0), ez, ez, H', ⟨Nat.le_refl _⟩, dz⟩
 clear H'
 try clear p2
 obtain ⟨x5_1, x6_1, rfl, rfl, HA, HK1, ⟨m1, rfl⟩⟩ := hrel
 cases gk with
 | zero => exact absurd HA.out (by simp [burinref02_edge.l0])
 | succ k1 =>
  have H := HA.out
  clear HA
  simp only [burinref02_edge.l0] at H
  by_cases c3 : x6_1 < (l0.length : Int)
  ·rw [if_pos c3] at H
   have c3b0 := decide_eq_true c3
   clear c3
   have HC4 := Aside0.mk H
   clear H
   go_upto_region 5 with (fail)
   go_cut [28] (fun v28 wc => ∃ (kq : Nat) (x28_3 : Bool), v28 = .bool x28_3 ∧ Aside0 (burinref02_edge.j1 kq l0 a1 x5_1 x6_1 x28_3 = some r) ∧ Aside0 (kq ≤ k1) ∧ Drawn0 w wc)
   case first =>
    have H := HC4.out
    clear HC4
    by_cases c5 : 0 ≤ x6_1
    rotate_left
    ·exact nomatch (if_neg c5).symm.trans H
    rw [if_pos c5] at H
    have c5b0 := decide_eq_true c5
    clear c5
    (first | rw [c5b0] | (simp only [i64_w, i32_w]; rw [c5b0]) | skip)
    by_cases c6 : ((rd_T36 l0 x6_1).f0) > a1
    ·rw [if_pos c6] at H
     have c6b0 : decide (a1 < ((rd_T36 l0 x6_1).f0)) = true := decide_eq_true c6
     clear c6
     have H' := Aside0.mk H
     clear H
     have p242 : 0 ≤ (x6_1 : Int) := oz
     have q242 : x6_1 < (l0.length : Int) := oz
     obtain ⟨ad242, e242, hx242_0, hx242_1⟩ := at_T36 HR0.out x6_1 p242 q242
     cases e242
     replace p242 := eq_true p242
     replace q242 := eq_true q242
     have p243 : 0 ≤ (x6_1 : Int) := oz
     have q243 : x6_1 < (l0.length : Int) := oz
     obtain ⟨ad243, e243, hx243_0, hx243_1⟩ := at_T36 HR0.out x6_1 p243 q243
     obtain rfl : ad242 = ad243 := (by injection e243)
     replace p243 := eq_true p243
     replace q243 := eq_true q243
     go_wp2
     go_meet
     case rel => exact ⟨_, (decide (((rd_T36 l0 x6_1).f0) < x5_1)), ez, H', ⟨by have := HK1.out; first | omega | exact Nat.le_refl _⟩, dz⟩
    rw [if_neg c6] at H
    have c6b0 : decide (a1 < ((rd_T36 l0 x6_1).f0)) = false := decide_eq_false c6
    clear c6
    have H' := Aside0.mk H
    clear H
    have p242 : 0 ≤ (x6_1 : Int) := oz
    have q242 : x6_1 < (l0.length : Int) := oz
    obtain ⟨ad242, e242, hx242_0, hx242_1⟩ := at_T36 HR0.out x6_1 p242 q242
    cases e242
    replace p242 := eq_true p242
    replace q242 := eq_true q242
    go_wp2
    go_meet
    case rel => exact ⟨_, (false), ez, H', ⟨by have := HK1.out; first | omega | exact Nat.le_refl _⟩, dz⟩
   clear HC4
   try clear p2
   try clear q2
   try clear hx2
   try clear c3
   try clear c3b0
   try clear c5
   try clear c5b0
   try clear c6
   try clear c6b0
   try clear hx242_0
   try clear hx242_1
   try clear hx243_0
   try clear hx243_1
   try clear p2
   try clear p242
   try clear p243
   try clear q242
   try clear q243
   obtain ⟨kq, x28_3, rfl, HA, HJ3, ⟨mc3, rfl⟩⟩ := hcut
   cases kq with
   | zero => exact absurd HA.out (by simp [burinref02_edge.j1])
   | succ kj3 =>
    have H := HA.out
    clear HA
    simp only [burinref02_edge.j1] at H
    by_cases c7 : x28_3 = true
    ·subst c7
     rw [if_pos rfl] at H
     by_cases c8 : 0 ≤ x6_1
     rotate_left
     ·exact nomatch (if_neg c8).symm.trans H
     rw [if_pos c8] at H
     have c8b0 := decide_eq_true c8
     clear c8
     by_cases c9 : x6_1 < (l0.length : Int)
     rotate_left
     ·exact nomatch (if_neg c9).symm.trans H
     rw [if_pos c9] at H
     have c9b0 := decide_eq_true c9
     clear c9
     by_cases c10 : ((rd_T36 l0 x6_1).f1) ≥ a1
     ·rw [if_pos c10] at H
      have c10b0 : decide (a1 ≤ ((rd_T36 l0 x6_1).f1)) = true := decide_eq_true c10
      clear c10
      by_cases c11 : ((rd_T36 l0 x6_1).f1) < 1114111
      ·rw [if_pos c11] at H
       have c11b0 := decide_eq_true c11
       clear c11
       by_cases c12 : (wrap64 (((rd_T36 l0 x6_1).f1) + 1)) < ((rd_T36 l0 x6_1).f0)
       ·rw [if_pos c12] at H
        have c12b0 := decide_eq_true c12
        clear c12
        have H' := Aside0.mk H
        clear H
        have p244 : 0 ≤ (x6_1 : Int) := oz
        have q244 : x6_1 < (l0.length : Int) := oz
        obtain ⟨ad244, e244, hx244_0, hx244_1⟩ := at_T36 HR0.out x6_1 p244 q244
        cases e244
        replace p244 := eq_true p244
        replace q244 := eq_true q244
        have p245 : 0 ≤ (x6_1 : Int) := oz
        have q245 : x6_1 < (l0.length : Int) := oz
        obtain ⟨ad245, e245, hx245_0, hx245_1⟩ := at_T36 HR0.out x6_1 p245 q245
        obtain rfl : ad244 = ad245 := (by injection e245)
        replace p245 := eq_true p245
        replace q245 := eq_true q245
        have p246 : 0 ≤ (x6_1 : Int) := oz
        have q246 : x6_1 < (l0.length : Int) := oz
        obtain ⟨ad246, e246, hx246_0, hx246_1⟩ := at_T36 HR0.out x6_1 p246 q246
        obtain rfl : ad244 = ad246 := (by injection e246)
        replace p246 := eq_true p246
        replace q246 := eq_true q246
        have p247 : 0 ≤ (x6_1 : Int) := oz
        have q247 : x6_1 < (l0.length : Int) := oz
        obtain ⟨ad247, e247, hx247_0, hx247_1⟩ := at_T36 HR0.out x6_1 p247 q247
        obtain rfl : ad244 = ad247 := (by injection e247)
        replace p247 := eq_true p247
        replace q247 := eq_true q247
        have p248 : 0 ≤ (x6_1 : Int) := oz
        have q248 : x6_1 < (l0.length : Int) := oz
        obtain ⟨ad248, e248, hx248_0, hx248_1⟩ := at_T36 HR0.out x6_1 p248 q248
        obtain rfl : ad244 = ad248 := (by injection e248)
        replace p248 := eq_true p248
        replace q248 := eq_true q248
        go_wp2
        go_roundg kj3
        case measure => have := HK1.out; have := HJ3.out; omega
        case rel => exact ⟨(wrap64 (((rd_T36 l0 x6_1).f1) + 1)), (wrap64 (x6_1 + 1)), ez, ez, H', ⟨by have := HK1.out; have := HJ3.out; omega⟩, dz⟩
       rw [if_neg c12] at H
       have c12b0 := decide_eq_false c12
       clear c12
       have H' := Aside0.mk H
       clear H
       have p244 : 0 ≤ (x6_1 : Int) := oz
       have q244 : x6_1 < (l0.length : Int) := oz
       obtain ⟨ad244, e244, hx244_0, hx244_1⟩ := at_T36 HR0.out x6_1 p244 q244
       cases e244
       replace p244 := eq_true p244
       replace q244 := eq_true q244
       have p245 : 0 ≤ (x6_1 : Int) := oz
       have q245 : x6_1 < (l0.length : Int) := oz
       obtain ⟨ad245, e245, hx245_0, hx245_1⟩ := at_T36 HR0.out x6_1 p245 q245
       obtain rfl : ad244 = ad245 := (by injection e245)
       replace p245 := eq_true p245
       replace q245 := eq_true q245
       have p246 : 0 ≤ (x6_1 : Int) := oz
       have q246 : x6_1 < (l0.length : Int) := oz
       obtain ⟨ad246, e246, hx246_0, hx246_1⟩ := at_T36 HR0.out x6_1 p246 q246
       obtain rfl : ad244 = ad246 := (by injection e246)
       replace p246 := eq_true p246
       replace q246 := eq_true q246
       have p247 : 0 ≤ (x6_1 : Int) := oz
       have q247 : x6_1 < (l0.length : Int) := oz
       obtain ⟨ad247, e247, hx247_0, hx247_1⟩ := at_T36 HR0.out x6_1 p247 q247
       obtain rfl : ad244 = ad247 := (by injection e247)
       replace p247 := eq_true p247
       replace q247 := eq_true q247
       go_wp2
       go_roundg kj3
       case measure => have := HK1.out; have := HJ3.out; omega
       case rel => exact ⟨((rd_T36 l0 x6_1).f0), (wrap64 (x6_1 + 1)), ez, ez, H', ⟨by have := HK1.out; have := HJ3.out; omega⟩, dz⟩
      rw [if_neg c11] at H
      have c11b0 := decide_eq_false c11
      clear c11
      have H' := Aside0.mk H
      clear H
      have p244 : 0 ≤ (x6_1 : Int) := oz
      have q244 : x6_1 < (l0.length : Int) := oz
      obtain ⟨ad244, e244, hx244_0, hx244_1⟩ := at_T36 HR0.out x6_1 p244 q244
      cases e244
      replace p244 := eq_true p244
      replace q244 := eq_true q244
      have p245 : 0 ≤ (x6_1 : Int) := oz
      have q245 : x6_1 < (l0.length : Int) := oz
      obtain ⟨ad245, e245, hx245_0, hx245_1⟩ := at_T36 HR0.out x6_1 p245 q245
      obtain rfl : ad244 = ad245 := (by injection e245)
      replace p245 := eq_true p245
      replace q245 := eq_true q245
      have p246 : 0 ≤ (x6_1 : Int) := oz
      have q246 : x6_1 < (l0.length : Int) := oz
      obtain ⟨ad246, e246, hx246_0, hx246_1⟩ := at_T36 HR0.out x6_1 p246 q246
      obtain rfl : ad244 = ad246 := (by injection e246)
      replace p246 := eq_true p246
      replace q246 := eq_true q246
      go_wp2
      go_roundg kj3
      case measure => have := HK1.out; have := HJ3.out; omega
      case rel => exact ⟨((rd_T36 l0 x6_1).f0), (wrap64 (x6_1 + 1)), ez, ez, H', ⟨by have := HK1.out; have := HJ3.out; omega⟩, dz⟩
     rw [if_neg c10] at H
     have c10b0 : decide (a1 ≤ ((rd_T36 l0 x6_1).f1)) = false := decide_eq_false c10
     clear c10
     have H' := Aside0.mk H
     clear H
     have p244 : 0 ≤ (x6_1 : Int) := oz
     have q244 : x6_1 < (l0.length : Int) := oz
     obtain ⟨ad244, e244, hx244_0, hx244_1⟩ := at_T36 HR0.out x6_1 p244 q244
     cases e244
     replace p244 := eq_true p244
     replace q244 := eq_true q244
     have p245 : 0 ≤ (x6_1 : Int) := oz
     have q245 : x6_1 < (l0.length : Int) := oz
     obtain ⟨ad245, e245, hx245_0, hx245_1⟩ := at_T36 HR0.out x6_1 p245 q245
     obtain rfl : ad244 = ad245 := (by injection e245)
     replace p245 := eq_true p245
     replace q245 := eq_true q245
     go_wp2
     go_roundg kj3
     case measure => have := HK1.out; have := HJ3.out; omega
     case rel => exact ⟨((rd_T36 l0 x6_1).f0), (wrap64 (x6_1 + 1)), ez, ez, H', ⟨by have := HK1.out; have := HJ3.out; omega⟩, dz⟩
    replace c7 := Bool.eq_false_iff.mpr c7
    subst c7
    rw [if_neg (show ¬ (false = true) by decide)] at H
    by_cases c13 : 0 ≤ x6_1
    rotate_left
    ·exact nomatch (if_neg c13).symm.trans H
    rw [if_pos c13] at H
    have c13b0 := decide_eq_true c13
    clear c13
    by_cases c14 : x6_1 < (l0.length : Int)
    rotate_left
    ·exact nomatch (if_neg c14).symm.trans H
    rw [if_pos c14] at H
    have c14b0 := decide_eq_true c14
    clear c14
    by_cases c15 : ((rd_T36 l0 x6_1).f1) ≥ a1
    ·rw [if_pos c15] at H
     have c15b0 : decide (a1 ≤ ((rd_T36 l0 x6_1).f1)) = true := decide_eq_true c15
     clear c15
     by_cases c16 : ((rd_T36 l0 x6_1).f1) < 1114111
     ·rw [if_pos c16] at H
      have c16b0 := decide_eq_true c16
      clear c16
      by_cases c17 : (wrap64 (((rd_T36 l0 x6_1).f1) + 1)) < x5_1
      ·rw [if_pos c17] at H
       have c17b0 := decide_eq_true c17
       clear c17
       have H' := Aside0.mk H
       clear H
       have p249 : 0 ≤ (x6_1 : Int) := oz
       have q249 : x6_1 < (l0.length : Int) := oz
       obtain ⟨ad249, e249, hx249_0, hx249_1⟩ := at_T36 HR0.out x6_1 p249 q249
       cases e249
       replace p249 := eq_true p249
       replace q249 := eq_true q249
       have p250 : 0 ≤ (x6_1 : Int) := oz
       have q250 : x6_1 < (l0.length : Int) := oz
       obtain ⟨ad250, e250, hx250_0, hx250_1⟩ := at_T36 HR0.out x6_1 p250 q250
       obtain rfl : ad249 = ad250 := (by injection e250)
       replace p250 := eq_true p250
       replace q250 := eq_true q250
       have p251 : 0 ≤ (x6_1 : Int) := oz
       have q251 : x6_1 < (l0.length : Int) := oz
       obtain ⟨ad251, e251, hx251_0, hx251_1⟩ := at_T36 HR0.out x6_1 p251 q251
       obtain rfl : ad249 = ad251 := (by injection e251)
       replace p251 := eq_true p251
       replace q251 := eq_true q251
       have p252 : 0 ≤ (x6_1 : Int) := oz
       have q252 : x6_1 < (l0.length : Int) := oz
       obtain ⟨ad252, e252, hx252_0, hx252_1⟩ := at_T36 HR0.out x6_1 p252 q252
       obtain rfl : ad249 = ad252 := (by injection e252)
       replace p252 := eq_true p252
       replace q252 := eq_true q252
       go_wp2
       go_roundg kj3
       case measure => have := HK1.out; have := HJ3.out; omega
       case rel => exact ⟨(wrap64 (((rd_T36 l0 x6_1).f1) + 1)), (wrap64 (x6_1 + 1)), ez, ez, H', ⟨by have := HK1.out; have := HJ3.out; omega⟩, dz⟩
      rw [if_neg c17] at H
      have c17b0 := decide_eq_false c17
      clear c17
      have H' := Aside0.mk H
      clear H
      have p249 : 0 ≤ (x6_1 : Int) := oz
      have q249 : x6_1 < (l0.length : Int) := oz
      obtain ⟨ad249, e249, hx249_0, hx249_1⟩ := at_T36 HR0.out x6_1 p249 q249
      cases e249
      replace p249 := eq_true p249
      replace q249 := eq_true q249
      have p250 : 0 ≤ (x6_1 : Int) := oz
      have q250 : x6_1 < (l0.length : Int) := oz
      obtain ⟨ad250, e250, hx250_0, hx250_1⟩ := at_T36 HR0.out x6_1 p250 q250
      obtain rfl : ad249 = ad250 := (by injection e250)
      replace p250 := eq_true p250
      replace q250 := eq_true q250
      have p251 : 0 ≤ (x6_1 : Int) := oz
      have q251 : x6_1 < (l0.length : Int) := oz
      obtain ⟨ad251, e251, hx251_0, hx251_1⟩ := at_T36 HR0.out x6_1 p251 q251
      obtain rfl : ad249 = ad251 := (by injection e251)
      replace p251 := eq_true p251
      replace q251 := eq_true q251
      go_wp2
      go_roundg kj3
      case measure => have := HK1.out; have := HJ3.out; omega
      case rel => exact ⟨(x5_1), (wrap64 (x6_1 + 1)), ez, ez, H', ⟨by have := HK1.out; have := HJ3.out; omega⟩, dz⟩
     rw [if_neg c16] at H
     have c16b0 := decide_eq_false c16
     clear c16
     have H' := Aside0.mk H
     clear H
     have p249 : 0 ≤ (x6_1 : Int) := oz
     have q249 : x6_1 < (l0.length : Int) := oz
     obtain ⟨ad249, e249, hx249_0, hx249_1⟩ := at_T36 HR0.out x6_1 p249 q249
     cases e249
     replace p249 := eq_true p249
     replace q249 := eq_true q249
     have p250 : 0 ≤ (x6_1 : Int) := oz
     have q250 : x6_1 < (l0.length : Int) := oz
     obtain ⟨ad250, e250, hx250_0, hx250_1⟩ := at_T36 HR0.out x6_1 p250 q250
     obtain rfl : ad249 = ad250 := (by injection e250)
     replace p250 := eq_true p250
     replace q250 := eq_true q250
     go_wp2
     go_roundg kj3
     case measure => have := HK1.out; have := HJ3.out; omega
     case rel => exact ⟨(x5_1), (wrap64 (x6_1 + 1)), ez, ez, H', ⟨by have := HK1.out; have := HJ3.out; omega⟩, dz⟩
    rw [if_neg c15] at H
    have c15b0 : decide (a1 ≤ ((rd_T36 l0 x6_1).f1)) = false := decide_eq_false c15
    clear c15
    have H' := Aside0.mk H
    clear H
    have p249 : 0 ≤ (x6_1 : Int) := oz
    have q249 : x6_1 < (l0.length : Int) := oz
    obtain ⟨ad249, e249, hx249_0, hx249_1⟩ := at_T36 HR0.out x6_1 p249 q249
    cases e249
    replace p249 := eq_true p249
    replace q249 := eq_true q249
    go_wp2
    go_roundg kj3
    case measure => have := HK1.out; have := HJ3.out; omega
    case rel => exact ⟨(x5_1), (wrap64 (x6_1 + 1)), ez, ez, H', ⟨by have := HK1.out; have := HJ3.out; omega⟩, dz⟩
  rw [if_neg c3] at H
  have c3b0 := decide_eq_false c3
  clear c3
  obtain rfl := Option.some.inj H
  go_wp2
  go_ret
  exact ⟨ez, dz⟩
mutual
def burinref02_Make.l0 : Nat → Int → List (S36) → List (S36) → List (S36) → Int → Option ((List (S36)))
 | 0, _, _, _, _, _ => none
 | k + 1, x0, x1, x2, x7, x8 => if x8 ≤ 1114111 then ((burinref02_edge.f k x1 x8).bind fun t253 => ((burinref02_edge.f k x2 x8).bind fun t254 => (if t254 < t253 then (burinref02_Make.j1 k x0 x1 x2 x7 x8 t254) else (burinref02_Make.j1 k x0 x1 x2 x7 x8 t253)))) else (some x7)
def burinref02_Make.j1 : Nat → Int → List (S36) → List (S36) → List (S36) → Int → Int → Option ((List (S36)))
 | 0, _, _, _, _, _, _ => none
 | k + 1, x0, x1, x2, x7, x8, x9 => (burinref02_Has.f k x1 x8).bind fun t255 => ((burinref02_Has.f k x2 x8).bind fun t256 => (if x0 = 1 then (if t255 = true then (burinref02_Make.j2 k x0 x1 x2 x7 x8 x9 true) else (if t256 = true then (burinref02_Make.j2 k x0 x1 x2 x7 x8 x9 true) else (if x0 = 2 then (if x0 = 3 then (burinref02_Make.j2 k x0 x1 x2 x7 x8 x9 false) else (burinref02_Make.j2 k x0 x1 x2 x7 x8 x9 false)) else (if x0 = 3 then (burinref02_Make.j2 k x0 x1 x2 x7 x8 x9 false) else (burinref02_Make.j2 k x0 x1 x2 x7 x8 x9 false))))) else (if x0 = 2 then (if t255 = true then (if t256 = true then (burinref02_Make.j2 k x0 x1 x2 x7 x8 x9 true) else (if x0 = 3 then (burinref02_Make.j2 k x0 x1 x2 x7 x8 x9 (!t256)) else (burinref02_Make.j2 k x0 x1 x2 x7 x8 x9 false))) else (if x0 = 3 then (burinref02_Make.j2 k x0 x1 x2 x7 x8 x9 false) else (burinref02_Make.j2 k x0 x1 x2 x7 x8 x9 false))) else (if x0 = 3 then (if t255 = true then (burinref02_Make.j2 k x0 x1 x2 x7 x8 x9 (!t256)) else (burinref02_Make.j2 k x0 x1 x2 x7 x8 x9 false)) else (burinref02_Make.j2 k x0 x1 x2 x7 x8 x9 false)))))
def burinref02_Make.j2 : Nat → Int → List (S36) → List (S36) → List (S36) → Int → Int → Bool → Option ((List (S36)))
 | 0, _, _, _, _, _, _, _ => none
 | k + 1, x0, x1, x2, x7, x8, x9, x60 => if x60 = true then (if (x7.length : Int) > 0 then (if 0 ≤ (wrap64 ((x7.length : Int) - 1)) then (if (wrap64 ((x7.length : Int) - 1)) < (x7.length : Int) then (if (wrap64 (((rd_T36 x7 (wrap64 ((x7.length : Int) - 1))).f1) + 1)) = x8 then (burinref02_Make.l0 k x0 x1 x2 (x7.set ((wrap64 ((x7.length : Int) - 1)) : Int).toNat (⟨(rd_T36 x7 (wrap64 ((x7.length : Int) - 1))).f0, wrap64 (x9 - 1)⟩ : S36)) x9) else (if x7.length < 8796093022208 then (burinref02_Make.l0 k x0 x1 x2 (x7 ++ [(⟨x8, wrap64 (x9 - 1)⟩ : S36)]) x9) else (none))) else (none)) else (none)) else (if x7.length < 8796093022208 then (burinref02_Make.l0 k x0 x1 x2 (x7 ++ [(⟨x8, wrap64 (x9 - 1)⟩ : S36)]) x9) else (none))) else (burinref02_Make.l0 k x0 x1 x2 x7 x9)
end
def burinref02_Make.f (k : Nat) (a0 : Int) (l1 : List (S36)) (l2 : List (S36)) : Option ((List (S36))) := burinref02_Make.l0 k a0 l1 l2 ([] : List (S36)) 0
theorem burinref02_Make.mono_l : ∀ k, (∀ y0 y1 y2 y3 y4, LeO (burinref02_Make.l0 k y0 y1 y2 y3 y4) (burinref02_Make.l0 (k + 1) y0 y1 y2 y3 y4)) ∧ (∀ y0 y1 y2 y3 y4 y5, LeO (burinref02_Make.j1 k y0 y1 y2 y3 y4 y5) (burinref02_Make.j1 (k + 1) y0 y1 y2 y3 y4 y5)) ∧ (∀ y0 y1 y2 y3 y4 y5 y6, LeO (burinref02_Make.j2 k y0 y1 y2 y3 y4 y5 y6) (burinref02_Make.j2 (k + 1) y0 y1 y2 y3 y4 y5 y6))
 | 0 => ⟨fun _ _ _ _ _ r h => by simp [burinref02_Make.l0] at h, fun _ _ _ _ _ _ r h => by simp [burinref02_Make.j1] at h, fun _ _ _ _ _ _ _ r h => by simp [burinref02_Make.j2] at h⟩
 | k + 1 => by
  obtain ⟨ih0, ih1, ih2⟩ := burinref02_Make.mono_l k
  refine ⟨?_, ?_, ?_⟩
  ·intro y0 y1 y2 y3 y4
   unfold burinref02_Make.l0
   repeat' first
   | (with_reducible exact ih0 _ _ _ _ _)
   | (with_reducible exact ih1 _ _ _ _ _ _)
   | (with_reducible exact ih2 _ _ _ _ _ _ _)
   | (with_reducible exact burinref02_Has.mono _ _ _)
   | (with_reducible exact burinref02_edge.mono _ _ _)
   | (with_reducible exact LeO.refl _)
   | (with_reducible exact LeO.none _)
   | (with_reducible refine LeO.ite ?_ ?_)
   | (with_reducible refine LeO.bind ?_ (fun _ => ?_))
   | exact ih0 _ _ _ _ _
   | exact ih1 _ _ _ _ _ _
   | exact ih2 _ _ _ _ _ _ _
   | exact burinref02_Has.mono _ _ _
   | exact burinref02_edge.mono _ _ _
   | exact LeO.none _
   | refine LeO.ite ?_ ?_
   | refine LeO.bind ?_ (fun _ => ?_)
  ·intro y0 y1 y2 y3 y4 y5
   unfold burinref02_Make.j1
   repeat' first
   | (with_reducible exact ih0 _ _ _ _ _)
   | (with_reducible exact ih1 _ _ _ _ _ _)
   | (with_reducible exact ih2 _ _ _ _ _ _ _)
   | (with_reducible exact burinref02_Has.mono _ _ _)
   | (with_reducible exact burinref02_edge.mono _ _ _)
   | (with_reducible exact LeO.refl _)
   | (with_reducible exact LeO.none _)
   | (with_reducible refine LeO.ite ?_ ?_)
   | (with_reducible refine LeO.bind ?_ (fun _ => ?_))
   | exact ih0 _ _ _ _ _
   | exact ih1 _ _ _ _ _ _
   | exact ih2 _ _ _ _ _ _ _
   | exact burinref02_Has.mono _ _ _
   | exact burinref02_edge.mono _ _ _
   | exact LeO.none _
   | refine LeO.ite ?_ ?_
   | refine LeO.bind ?_ (fun _ => ?_)
  intro y0 y1 y2 y3 y4 y5 y6
  unfold burinref02_Make.j2
  repeat' first
  | (with_reducible exact ih0 _ _ _ _ _)
  | (with_reducible exact ih1 _ _ _ _ _ _)
  | (with_reducible exact ih2 _ _ _ _ _ _ _)
  | (with_reducible exact burinref02_Has.mono _ _ _)
  | (with_reducible exact burinref02_edge.mono _ _ _)
  | (with_reducible exact LeO.refl _)
  | (with_reducible exact LeO.none _)
  | (with_reducible refine LeO.ite ?_ ?_)
  | (with_reducible refine LeO.bind ?_ (fun _ => ?_))
  | exact ih0 _ _ _ _ _
  | exact ih1 _ _ _ _ _ _
  | exact ih2 _ _ _ _ _ _ _
  | exact burinref02_Has.mono _ _ _
  | exact burinref02_edge.mono _ _ _
  | exact LeO.none _
  | refine LeO.ite ?_ ?_
  | refine LeO.bind ?_ (fun _ => ?_)
theorem burinref02_Make.mono : ∀ a0 a1 a2 k, LeO (burinref02_Make.f k a0 a1 a2) (burinref02_Make.f (k + 1) a0 a1 a2) := by
 intro a0 a1 a2 k
 obtain ⟨ih0, ih1, ih2⟩ := burinref02_Make.mono_l k
 unfold burinref02_Make.f
 repeat' first
   | (with_reducible exact ih0 _ _ _ _ _)
   | (with_reducible exact ih1 _ _ _ _ _ _)
   | (with_reducible exact ih2 _ _ _ _ _ _ _)
   | (with_reducible exact burinref02_Has.mono _ _ _)
   | (with_reducible exact burinref02_edge.mono _ _ _)
   | (with_reducible exact LeO.refl _)
   | (with_reducible exact LeO.none _)
   | (with_reducible refine LeO.ite ?_ ?_)
   | (with_reducible refine LeO.bind ?_ (fun _ => ?_))
   | exact ih0 _ _ _ _ _
   | exact ih1 _ _ _ _ _ _
   | exact ih2 _ _ _ _ _ _ _
   | exact burinref02_Has.mono _ _ _
   | exact burinref02_edge.mono _ _ _
   | exact LeO.none _
   | refine LeO.ite ?_ ?_
   | refine LeO.bind ?_ (fun _ => ?_)
set_option maxHeartbeats 8000000 in
set_option maxRecDepth 100000 in
theorem burinref02_Make.calls (k : Nat) (a0 : Int) (A1 : Option Addr) (c1 : Nat) (l1 : List (S36)) (A2 : Option Addr) (c2 : Nat) (l2 : List (S36)) (r : List (S36)) (w : World) (hr1 : Kd.C k36 w A1 l1.length l1) (hc1 : l1.length ≤ c1) (hr2 : Kd.C k36 w A2 l2.length l2) (hc2 : l2.length ≤ c2) (h : burinref02_Make.f k a0 l1 l2 = some r) :
  Calls Tryz.prog 64 #[.int .i64 a0, .slice A1 l1.length c1, .slice A2 l2.length c2] w fun e w' => ∃ v0_ : Value, e = .returned (v0_) ∧ Kd.R k36 36 w' w.heap.size (fun _ => True) v0_ r ∧ Below w.heap.size w w' := by
 have hu36 := Tryz.underlying36
 have HR1 := Aside0.mk hr1
 have HC1 := Aside0.mk hc1
 clear hr1 hc1
 have HR2 := Aside0.mk hr2
 have HC2 := Aside0.mk hc2
 clear hr2 hc2
 have HB := Aside0.mk (Below.refl w.heap.size w)
 have H : (burinref02_Make.l0 k a0 l1 l2 ([] : List (S36)) 0) = some r := h
 clear h
 have H' := Aside0.mk H
 clear H
 go_enter Tryz.func64, Tryz.ntmps64
 go_wp2
 go_loopg [7, 8] k (fun kq v7 v8 w' => ∃ (x7_1 : List (S36)) (x8_1 : Int), v8 = .int .i64 x8_1 ∧ Aside0 (burinref02_Make.l0 kq a0 l1 l2 x7_1 x8_1 = some r) ∧ Aside0 (kq ≤ k) ∧ Aside0 (Kd.R k36 36 w' w.heap.size (fun _ => True) v7 x7_1) ∧ Aside0 (Below w.heap.size w w'))
 case atStart => exact ⟨(([] : List (S36))), (0), ez, H', ⟨Nat.le_refl _⟩, ⟨by first | exact Kd.R_nil _ _ _ _ _ | exact Kd.N_nil _ _ _ _ _ | exact Kd.V_nil _ _ _ _ _ | exact Kd.Q_nil _ _ _ _ _ | exact Kd.S_nil _ _ _ _ _⟩, ⟨bz⟩⟩
 clear H'
 try clear c1
 try clear c2
 try clear p2
 obtain ⟨x7_1, x8_1, rfl, HA, HK1, HO_7, HB⟩ := hrel
 cases gk with
 | zero => exact absurd HA.out (by simp [burinref02_Make.l0])
 | succ k1 =>
  have H := HA.out
  clear HA
  simp only [burinref02_Make.l0] at H
  by_cases c4 : x8_1 ≤ 1114111
  ·rw [if_pos c4] at H
   have c4b0 := decide_eq_true c4
   clear c4
   replace H := Option.bind_eq_some_iff.mp H
   obtain ⟨t253, A50, H⟩ := H
   try dsimp only at H
   have A5 := Aside0.mk A50
   clear A50
   replace H := Option.bind_eq_some_iff.mp H
   obtain ⟨t254, A60, H⟩ := H
   try dsimp only at H
   have A6 := Aside0.mk A60
   clear A60
   have HC7 := Aside0.mk H
   clear H
   go_upto_if 24 with (first | ((with_reducible refine gate_callee (f := 95) rfl ?_); refine goesL_ (some 18) rfl rfl Tryz.func95 kz rfl #[.slice A1 l1.length c1, .int .i64 x8_1] rfl mz ?_; (with_reducible refine (burinref02_edge.calls k1 _ _ l1 x8_1 t253 _ ?side1 ?side2 A5.out).mono ?_); (case side1 => repeat (first | exact (Kd.C_below HR1.out HB.out) | (with_reducible refine Kd.C_alloc ?_ _) | (with_reducible refine Kd.C_drewN ?_ _) | (with_reducible refine Kd.C_drew ?_))); (case side2 => exact HC1.out); rintro e w' ⟨rfl, ⟨nd, rfl⟩⟩; refine ⟨_, rfl, ?_⟩) | ((with_reducible refine gate_callee (f := 95) rfl ?_); refine goesL_ (some 21) rfl rfl Tryz.func95 kz rfl #[.slice A2 l2.length c2, .int .i64 x8_1] rfl mz ?_; (with_reducible refine (burinref02_edge.calls k1 _ _ l2 x8_1 t254 _ ?side1 ?side2 A6.out).mono ?_); (case side1 => repeat (first | exact (Kd.C_below HR2.out bz) | (with_reducible refine Kd.C_alloc ?_ _) | (with_reducible refine Kd.C_drewN ?_ _) | (with_reducible refine Kd.C_drew ?_))); (case side2 => exact HC2.out); rintro e w' ⟨rfl, ⟨nd, rfl⟩⟩; refine ⟨_, rfl, ?_⟩))
   (try simp only [Act.put, List.setIfInBounds_toArray, List.set_cons_zero, List.set_cons_succ])
   go_cut [9] (fun v9 wc => ∃ (kq : Nat) (x9_6 : Int), v9 = .int .i64 x9_6 ∧ Aside0 (burinref02_Make.j1 kq a0 l1 l2 x7_1 x8_1 x9_6 = some r) ∧ Aside0 (kq ≤ k1) ∧ Aside0 (Kd.R k36 36 wc w.heap.size (fun _ => True) u7 x7_1) ∧ Aside0 (Below w.heap.size w wc))
   case first =>
    have H := HC7.out
    clear HC7
    by_cases c8 : t254 < t253
    ·rw [if_pos c8] at H
     have c8b0 := decide_eq_true c8
     clear c8
     (first | rw [c8b0] | (simp only [i64_w, i32_w]; rw [c8b0]) | skip)
     have H' := Aside0.mk H
     clear H
     go_wp2
     go_meet
     case rel => exact ⟨_, (t254), ez, H', ⟨by have := HK1.out; first | omega | exact Nat.le_refl _⟩, ⟨rz HO_7.out⟩, ⟨bz⟩⟩
    rw [if_neg c8] at H
    have c8b0 := decide_eq_false c8
    clear c8
    (first | rw [c8b0] | (simp only [i64_w, i32_w]; rw [c8b0]) | skip)
    have H' := Aside0.mk H
    clear H
    go_wp2
    go_meet
    case rel => exact ⟨_, (t253), ez, H', ⟨by have := HK1.out; first | omega | exact Nat.le_refl _⟩, ⟨rz HO_7.out⟩, ⟨bz⟩⟩
   clear HC7
   try clear c1
   try clear c2
   try clear p2
   try clear c4
   try clear c4b0
   try clear c6
   try clear c8
   try clear c8b0
   try clear p2
   obtain ⟨kq, x9_6, rfl, HA, HJ6, HO_7, HB⟩ := hcut
   cases kq with
   | zero => exact absurd HA.out (by simp [burinref02_Make.j1])
   | succ kj6 =>
    have H := HA.out
    clear HA
    simp only [burinref02_Make.j1] at H
    replace H := Option.bind_eq_some_iff.mp H
    obtain ⟨t255, A90, H⟩ := H
    try dsimp only at H
    have A9 := Aside0.mk A90
    clear A90
    replace H := Option.bind_eq_some_iff.mp H
    obtain ⟨t256, A100, H⟩ := H
    try dsimp only at H
    have A10 := Aside0.mk A100
    clear A100
    have HC11 := Aside0.mk H
    clear H
    go_upto_region 9 with (first | ((with_reducible refine gate_callee (f := 75) rfl ?_); refine goesL_ (some 28) rfl rfl Tryz.func75 kz rfl #[.slice A1 l1.length c1, .int .i64 x8_1] rfl mz ?_; (with_reducible refine (burinref02_Has.calls kj6 _ _ l1 x8_1 t255 _ ?side1 ?side2 A9.out).mono ?_); (case side1 => repeat (first | exact (Kd.C_below HR1.out HB.out) | (with_reducible refine Kd.C_alloc ?_ _) | (with_reducible refine Kd.C_drewN ?_ _) | (with_reducible refine Kd.C_drew ?_))); (case side2 => exact HC1.out); rintro e w' ⟨rfl, ⟨nd, rfl⟩⟩; refine ⟨_, rfl, ?_⟩) | ((with_reducible refine gate_callee (f := 75) rfl ?_); refine goesL_ (some 31) rfl rfl Tryz.func75 kz rfl #[.slice A2 l2.length c2, .int .i64 x8_1] rfl mz ?_; (with_reducible refine (burinref02_Has.calls kj6 _ _ l2 x8_1 t256 _ ?side1 ?side2 A10.out).mono ?_); (case side1 => repeat (first | exact (Kd.C_below HR2.out bz) | (with_reducible refine Kd.C_alloc ?_ _) | (with_reducible refine Kd.C_drewN ?_ _) | (with_reducible refine Kd.C_drew ?_))); (case side2 => exact HC2.out); rintro e w' ⟨rfl, ⟨nd, rfl⟩⟩; refine ⟨_, rfl, ?_⟩))
    (try simp only [Act.put, List.setIfInBounds_toArray, List.set_cons_zero, List.set_cons_succ])
    go_cut [60] (fun v60 wc => ∃ (kq : Nat) (x60_10 : Bool), v60 = .bool x60_10 ∧ Aside0 (burinref02_Make.j2 kq a0 l1 l2 x7_1 x8_1 x9_6 x60_10 = some r) ∧ Aside0 (kq ≤ kj6) ∧ Aside0 (Kd.R k36 36 wc w.heap.size (fun _ => True) u7 x7_1) ∧ Aside0 (Below w.heap.size w wc))
    case first =>
     have H := HC11.out
     clear HC11
     by_cases c12 : a0 = 1
     ·rw [if_pos c12] at H
      have c12b0 := beq_iff_eq.mpr c12
      have c12b1 := bne_eq_false_iff_eq.mpr c12
      clear c12
      (first | rw [c12b0] | (simp only [i64_w, i32_w]; rw [c12b0]) | skip)
      by_cases c13 : t255 = true
      ·subst c13
       rw [if_pos rfl] at H
       have H' := Aside0.mk H
       clear H
       go_wp2
       go_meet
       case rel => exact ⟨_, (true), ez, H', ⟨by have := HK1.out; have := HJ6.out; first | omega | exact Nat.le_refl _⟩, ⟨rz HO_7.out⟩, ⟨bz⟩⟩
      replace c13 := Bool.eq_false_iff.mpr c13
      subst c13
      rw [if_neg (show ¬ (false = true) by decide)] at H
      by_cases c14 : t256 = true
      ·subst c14
       rw [if_pos rfl] at H
       have H' := Aside0.mk H
       clear H
       go_wp2
       go_meet
       case rel => exact ⟨_, (true), ez, H', ⟨by have := HK1.out; have := HJ6.out; first | omega | exact Nat.le_refl _⟩, ⟨rz HO_7.out⟩, ⟨bz⟩⟩
      replace c14 := Bool.eq_false_iff.mpr c14
      subst c14
      rw [if_neg (show ¬ (false = true) by decide)] at H
      by_cases c15 : a0 = 2
      ·rw [if_pos c15] at H
       have c15b0 := beq_iff_eq.mpr c15
       have c15b1 := bne_eq_false_iff_eq.mpr c15
       clear c15
       by_cases c16 : a0 = 3
       ·rw [if_pos c16] at H
        have c16b0 := beq_iff_eq.mpr c16
        have c16b1 := bne_eq_false_iff_eq.mpr c16
        clear c16
        have H' := Aside0.mk H
        clear H
        go_wp2
        go_meet
        case rel => exact ⟨_, (false), ez, H', ⟨by have := HK1.out; have := HJ6.out; first | omega | exact Nat.le_refl _⟩, ⟨rz HO_7.out⟩, ⟨bz⟩⟩
       rw [if_neg c16] at H
       have c16b0 := beq_eq_false_iff_ne.mpr c16
       have c16b1 := bne_iff_ne.mpr c16
       have H' := Aside0.mk H
       clear H
       go_wp2
       go_meet
       case rel => exact ⟨_, (false), ez, H', ⟨by have := HK1.out; have := HJ6.out; first | omega | exact Nat.le_refl _⟩, ⟨rz HO_7.out⟩, ⟨bz⟩⟩
      rw [if_neg c15] at H
      have c15b0 := beq_eq_false_iff_ne.mpr c15
      have c15b1 := bne_iff_ne.mpr c15
      by_cases c17 : a0 = 3
      ·rw [if_pos c17] at H
       have c17b0 := beq_iff_eq.mpr c17
       have c17b1 := bne_eq_false_iff_eq.mpr c17
       clear c17
       have H' := Aside0.mk H
       clear H
       go_wp2
       go_meet
       case rel => exact ⟨_, (false), ez, H', ⟨by have := HK1.out; have := HJ6.out; first | omega | exact Nat.le_refl _⟩, ⟨rz HO_7.out⟩, ⟨bz⟩⟩
      rw [if_neg c17] at H
      have c17b0 := beq_eq_false_iff_ne.mpr c17
      have c17b1 := bne_iff_ne.mpr c17
      have H' := Aside0.mk H
      clear H
      go_wp2
      go_meet
      case rel => exact ⟨_, (false), ez, H', ⟨by have := HK1.out; have := HJ6.out; first | omega | exact Nat.le_refl _⟩, ⟨rz HO_7.out⟩, ⟨bz⟩⟩
     rw [if_neg c12] at H
     have c12b0 := beq_eq_false_iff_ne.mpr c12
     have c12b1 := bne_iff_ne.mpr c12
     (first | rw [c12b0] | (simp only [i64_w, i32_w]; rw [c12b0]) | skip)
     by_cases c18 : a0 = 2
     ·rw [if_pos c18] at H
      have c18b0 := beq_iff_eq.mpr c18
      have c18b1 := bne_eq_false_iff_eq.mpr c18
      clear c18
      by_cases c19 : t255 = true
      ·subst c19
       rw [if_pos rfl] at H
       by_cases c20 : t256 = true
       ·subst c20
        rw [if_pos rfl] at H
        have H' := Aside0.mk H
        clear H
        go_wp2
        go_meet
        case rel => exact ⟨_, (true), ez, H', ⟨by have := HK1.out; have := HJ6.out; first | omega | exact Nat.le_refl _⟩, ⟨rz HO_7.out⟩, ⟨bz⟩⟩
       replace c20 := Bool.eq_false_iff.mpr c20
       subst c20
       rw [if_neg (show ¬ (false = true) by decide)] at H
       by_cases c21 : a0 = 3
       ·rw [if_pos c21] at H
        have c21b0 := beq_iff_eq.mpr c21
        have c21b1 := bne_eq_false_iff_eq.mpr c21
        clear c21
        have H' := Aside0.mk H
        clear H
        go_wp2
        go_meet
        case rel => exact ⟨_, (!false), ez, H', ⟨by have := HK1.out; have := HJ6.out; first | omega | exact Nat.le_refl _⟩, ⟨rz HO_7.out⟩, ⟨bz⟩⟩
       rw [if_neg c21] at H
       have c21b0 := beq_eq_false_iff_ne.mpr c21
       have c21b1 := bne_iff_ne.mpr c21
       have H' := Aside0.mk H
       clear H
       go_wp2
       go_meet
       case rel => exact ⟨_, (false), ez, H', ⟨by have := HK1.out; have := HJ6.out; first | omega | exact Nat.le_refl _⟩, ⟨rz HO_7.out⟩, ⟨bz⟩⟩
      replace c19 := Bool.eq_false_iff.mpr c19
      subst c19
      rw [if_neg (show ¬ (false = true) by decide)] at H
      by_cases c22 : a0 = 3
      ·rw [if_pos c22] at H
       have c22b0 := beq_iff_eq.mpr c22
       have c22b1 := bne_eq_false_iff_eq.mpr c22
       clear c22
       have H' := Aside0.mk H
       clear H
       go_wp2
       go_meet
       case rel => exact ⟨_, (false), ez, H', ⟨by have := HK1.out; have := HJ6.out; first | omega | exact Nat.le_refl _⟩, ⟨rz HO_7.out⟩, ⟨bz⟩⟩
      rw [if_neg c22] at H
      have c22b0 := beq_eq_false_iff_ne.mpr c22
      have c22b1 := bne_iff_ne.mpr c22
      have H' := Aside0.mk H
      clear H
      go_wp2
      go_meet
      case rel => exact ⟨_, (false), ez, H', ⟨by have := HK1.out; have := HJ6.out; first | omega | exact Nat.le_refl _⟩, ⟨rz HO_7.out⟩, ⟨bz⟩⟩
     rw [if_neg c18] at H
     have c18b0 := beq_eq_false_iff_ne.mpr c18
     have c18b1 := bne_iff_ne.mpr c18
     by_cases c23 : a0 = 3
     ·rw [if_pos c23] at H
      have c23b0 := beq_iff_eq.mpr c23
      have c23b1 := bne_eq_false_iff_eq.mpr c23
      clear c23
      by_cases c24 : t255 = true
      ·subst c24
       rw [if_pos rfl] at H
       have H' := Aside0.mk H
       clear H
       go_wp2
       go_meet
       case rel => exact ⟨_, (!t256), ez, H', ⟨by have := HK1.out; have := HJ6.out; first | omega | exact Nat.le_refl _⟩, ⟨rz HO_7.out⟩, ⟨bz⟩⟩
      replace c24 := Bool.eq_false_iff.mpr c24
      subst c24
      rw [if_neg (show ¬ (false = true) by decide)] at H
      have H' := Aside0.mk H
      clear H
      go_wp2
      go_meet
      case rel => exact ⟨_, (false), ez, H', ⟨by have := HK1.out; have := HJ6.out; first | omega | exact Nat.le_refl _⟩, ⟨rz HO_7.out⟩, ⟨bz⟩⟩
     rw [if_neg c23] at H
     have c23b0 := beq_eq_false_iff_ne.mpr c23
     have c23b1 := bne_iff_ne.mpr c23
     have H' := Aside0.mk H
     clear H
     go_wp2
     go_meet
     case rel => exact ⟨_, (false), ez, H', ⟨by have := HK1.out; have := HJ6.out; first | omega | exact Nat.le_refl _⟩, ⟨rz HO_7.out⟩, ⟨bz⟩⟩
    clear HC11
    try clear c1
    try clear c2
    try clear p2
    try clear c4
    try clear c4b0
    try clear c6
    try clear c7
    try clear c8
    try clear c8b0
    try clear c9
    try clear c12
    try clear c12b0 c12b1
    try clear c13
    try clear c14
    try clear c15
    try clear c15b0 c15b1
    try clear c16
    try clear c16b0 c16b1
    try clear c17
    try clear c17b0 c17b1
    try clear c18
    try clear c18b0 c18b1
    try clear c19
    try clear c20
    try clear c21
    try clear c21b0 c21b1
    try clear c22
    try clear c22b0 c22b1
    try clear c23
    try clear c23b0 c23b1
    try clear c24
    try clear p2
    obtain ⟨kq, x60_10, rfl, HA, HJ10, HO_7, HB⟩ := hcut
    cases kq with
    | zero => exact absurd HA.out (by simp [burinref02_Make.j2])
    | succ kj10 =>
     have H := HA.out
     clear HA
     simp only [burinref02_Make.j2] at H
     by_cases c25 : x60_10 = true
     ·subst c25
      rw [if_pos rfl] at H
      by_cases c26 : (x7_1.length : Int) > 0
      ·rw [if_pos c26] at H
       have c26b0 : decide (0 < (x7_1.length : Int)) = true := decide_eq_true c26
       have c26b1 : decide (0 < x7_1.length) = true := decide_eq_true (by omega)
       clear c26
       obtain ⟨ji27, hji27⟩ : ∃ j_ : Int, (wrap64 ((x7_1.length : Int) - 1)) = j_ := ⟨_, rfl⟩
       replace H : (if 0 ≤ (ji27) then (if (ji27) < (x7_1.length : Int) then (if (wrap64 (((rd_T36 x7_1 (ji27)).f1) + 1)) = x8_1 then (burinref02_Make.l0 kj10 a0 l1 l2 (x7_1.set ((ji27) : Int).toNat (⟨(rd_T36 x7_1 (ji27)).f0, wrap64 (x9_6 - 1)⟩ : S36)) x9_6) else (if x7_1.length < 8796093022208 then (burinref02_Make.l0 kj10 a0 l1 l2 (x7_1 ++ [(⟨x8_1, wrap64 (x9_6 - 1)⟩ : S36)]) x9_6) else (none))) else (none)) else (none)) = some r := by first | (rw [hji27] at H; exact H) | (simp only [hji27] at H ⊢; exact H)
       have hji27w : (IntKind.i64.wrap ((x7_1.length : Int) - 1)) = ji27 := (i64_w _).trans hji27
       by_cases c28 : 0 ≤ (ji27)
       rotate_left
       ·exact nomatch (if_neg c28).symm.trans H
       rw [if_pos c28] at H
       have c28b0 := decide_eq_true c28
       clear c28
       by_cases c29 : (ji27) < (x7_1.length : Int)
       rotate_left
       ·exact nomatch (if_neg c29).symm.trans H
       rw [if_pos c29] at H
       have c29b0 := decide_eq_true c29
       clear c29
       by_cases c30 : (wrap64 (((rd_T36 x7_1 (ji27)).f1) + 1)) = x8_1
       ·rw [if_pos c30] at H
        have c30b0 := beq_iff_eq.mpr c30
        have c30b1 := bne_eq_false_iff_eq.mpr c30
        clear c30
        obtain ⟨y258, hy258⟩ : ∃ y_ : List (S36), y_ = (x7_1.set ((ji27) : Int).toNat (⟨(rd_T36 x7_1 (ji27)).f0, wrap64 (x9_6 - 1)⟩ : S36)) := ⟨_, rfl⟩
        rw [← hy258] at H
        try rw [Option.bind_some] at H
        have Ny258 := Aside0.mk hy258
        clear hy258
        have H' := Aside0.mk H
        clear H
        obtain ⟨Ao32, co32, eo32⟩ := Kd.R_slice HO_7.out
        subst eo32
        have p257 : 0 ≤ ((ji27) : Int) := oz
        have q257 : (ji27) < (x7_1.length : Int) := oz
        obtain ⟨ad257, e257, hx257_0, hx257_1⟩ := at_T36 (Kd.R_reads' HO_7.out).2.2 (ji27) p257 q257
        cases e257
        replace p257 := eq_true p257
        replace q257 := eq_true q257
        have p31 : 0 ≤ ((ji27) : Int) := oz
        have q31 : ((ji27) : Int) < ((x7_1.length : Int) : Int) := oz
        obtain ⟨go31, co31, eo31, gb31, gl31, cl31, HG31⟩ := Kd.R_form HO_7.out (by omega)
        (first | cases eo31 | (injection eo31 with ea_ en_ ec_; (first | subst ea_ | (injection ea_ with ea_; subst ea_)); subst ec_; clear en_))
        have GB31 := Aside0.mk gb31
        have GG31 := Aside0.mk HG31
        clear gb31 gl31 HG31
        (first | simp only [add_plain] at hx257_0 | skip)
        (first | simp only [add_plain] at hx257_1 | skip)
        obtain ⟨ce31, hcl31, hM31, hcc31, hfr31⟩ := Kd.R_elem HO_7.out z36 ((ji27) : Int) p31 q31
        obtain rfl := k36_openM hM31
        have hx31_0 : wc.cell? ⟨go31, ((ji27) : Int).toNat * 2, none⟩ = some (.int .i64 ((rd_T36 x7_1 (ji27)).f0)) := hcc31 0 _ rfl
        have hx31_1 : wc.cell? ⟨go31, ((ji27) : Int).toNat * 2 + 1, none⟩ = some (.int .i64 ((rd_T36 x7_1 (ji27)).f1)) := hcc31 1 _ rfl
        have hf31_0 : wc.frozen? ⟨go31, ((ji27) : Int).toNat * 2, none⟩ = false := hfr31 0
        have hf31_1 : wc.frozen? ⟨go31, ((ji27) : Int).toNat * 2 + 1, none⟩ = false := hfr31 1
        clear hcl31 hcc31 hfr31 hM31
        replace p31 := eq_true p31
        replace q31 := eq_true q31
        have HX33 := Aside0.mk (show Kd.R k36 36 wc w.heap.size (fun _ => True) (.slice (some ⟨go31, 0, none⟩) x7_1.length co32) x7_1 from (rz HO_7.out))
        obtain ⟨ce33, hcl33, hM33, hcc33, hfr33⟩ := Kd.R_elem HX33.out z36 ((ji27) : Int) (oz) (by have h_ : ((ji27) : Int) < ((x7_1.length : Int) : Int) := oz; first | exact h_ | (have e_ := (Kd.R_reads' HO_7.out).1; omega) | simpa using h_)
        obtain rfl := k36_openM hM33
        have HP33 := Kd.R_seg HX33.out ((ji27) : Int) (oz) (by have h_ : ((ji27) : Int) < ((x7_1.length : Int) : Int) := oz; first | exact h_ | (have e_ := (Kd.R_reads' HO_7.out).1; omega) | simpa using h_) (seg := [.int .i64 (wrap64 (x9_6 - 1))]) (j := 1) hcl33 hcc33 (show 2 ≤ 2 from by decide) (x' := (⟨(rd_T36 x7_1 (ji27)).f0, wrap64 (x9_6 - 1)⟩ : S36)) (k36_mkM _ _ _ (⟨(rd_T36 x7_1 (ji27)).f0, wrap64 (x9_6 - 1)⟩ : S36) ) (fun _ hk => hk)
        have hx33_1 := hcc33 1 _ rfl
        (try simp only [show (k36).sz = 2 from rfl, Nat.mul_one, Nat.add_zero] at hx33_1)
        have hf33_1 := hfr33 1
        (try simp only [show (k36).sz = 2 from rfl, Nat.mul_one, Nat.add_zero] at hf33_1)
        clear hcl33 hcc33 hfr33 hM33
        go_wp2_with (first | ((with_reducible refine gate_store (t := 3) (p := 82) rfl ?_); refine store_event (t := 3) (p := 82) (v := ?vo_w34) (w1 := (wc.setCell ⟨go31, ((ji27) : Int).toNat * 2 + 1, none⟩ (.int .i64 (wrap64 (x9_6 - 1))))) ?hg ?ho ?hn ?hr ?_; (case ho => rfl); (case hg => rfl); (case hn => rfl); (case hr => first | (go_simp; done) | (go_simp; rfl)); intro w34 hw; have hg : wc.grownBy w34 (some go31) := (by rw [hw]; exact HP33.2); have hp_ : Kd.R k36 36 w34 w.heap.size (fun _ => True) (.slice (some ⟨go31, 0, none⟩) x7_1.length co32) y258 := (by rw [hw, Ny258.out]; exact HP33.1); clear HP33; have n0_ := Aside0.mk (hp_); have n1_ := Aside0.mk ((by rw [hw]; exact below_set (HB.out) GB31.out : Below w.heap.size w w34)); clear HO_7; clear HB; have HO_7 := n0_; have HB := n1_; clear n0_ n1_; clear hg hw hp_))
        go_roundg kj10
        case measure => have := HK1.out; have := HJ6.out; have := HJ10.out; omega
        case rel => exact ⟨(y258), (x9_6), ez, H', ⟨by have := HK1.out; have := HJ6.out; have := HJ10.out; omega⟩, ⟨rz HO_7.out⟩, ⟨bz⟩⟩
       rw [if_neg c30] at H
       have c30b0 := beq_eq_false_iff_ne.mpr c30
       have c30b1 := bne_iff_ne.mpr c30
       by_cases c35 : x7_1.length < 8796093022208
       rotate_left
       ·exact nomatch (if_neg c35).symm.trans H
       rw [if_pos c35] at H
       have LMc35 := Aside0.mk c35
       clear c35
       obtain ⟨y259, hy259⟩ : ∃ y_ : List (S36), y_ = (x7_1 ++ [(⟨x8_1, wrap64 (x9_6 - 1)⟩ : S36)]) := ⟨_, rfl⟩
       rw [← hy259] at H
       try rw [Option.bind_some] at H
       have Ny259 := Aside0.mk hy259
       clear hy259
       have H' := Aside0.mk H
       clear H
       obtain ⟨Ao36, co36, eo36⟩ := Kd.R_slice HO_7.out
       subst eo36
       have p257 : 0 ≤ ((ji27) : Int) := oz
       have q257 : (ji27) < (x7_1.length : Int) := oz
       obtain ⟨ad257, e257, hx257_0, hx257_1⟩ := at_T36 (Kd.R_reads' HO_7.out).2.2 (ji27) p257 q257
       cases e257
       replace p257 := eq_true p257
       replace q257 := eq_true q257
       go_wp2_with (first | ((with_reducible refine gate_builtin (b := .append) (xs := #[.tmp 83, .tmp 88]) rfl ?_); at_builtin; refine Kd.R_append k36 (w0 := w) w.heap.size rfl (.tmp 83) (.tmp 88) 26 36 (.agg #[(.int .i64 0), (.int .i64 0)]) 16 rfl Tryz.underlying26 info36 rfl (by decide) (by omega) (.slice (some ad257) x7_1.length co36) x7_1 (⟨x8_1, wrap64 (x9_6 - 1)⟩ : S36) [.int .i64 x8_1, .int .i64 (wrap64 (x9_6 - 1))] (fun _ => True) (fun _ => False) rfl rfl ?aP (fun _ hk => hk.elim) ?aF ?aO ?aB ?aS ?aL ?_; (case aP => exact k36_mkM _ _ _ (⟨x8_1, wrap64 (x9_6 - 1)⟩ : S36)); (case aB => exact bz); (case aF => exact (fun _ _ => trivial)); (case aO => exact (rz HO_7.out)); (case aS => exact (below_size bz)); (case aL => have := LMc35.out; omega); intro v260 w37 ho hb hg hat; rw [← Ny259.out] at ho; have n0_ := Aside0.mk (hb); have n1_ := Aside0.mk (ho); clear HB; clear HO_7; have HB := n0_; have HO261 := n1_; clear n0_ n1_; clear ho hb hg hat))
       go_roundg kj10
       case measure => have := HK1.out; have := HJ6.out; have := HJ10.out; omega
       case rel => exact ⟨(y259), (x9_6), ez, H', ⟨by have := HK1.out; have := HJ6.out; have := HJ10.out; omega⟩, ⟨rz HO261.out⟩, ⟨bz⟩⟩
      rw [if_neg c26] at H
      have c26b0 : decide (0 < (x7_1.length : Int)) = false := decide_eq_false c26
      have c26b1 : decide (0 < x7_1.length) = false := decide_eq_false (by omega)
      clear c26
      by_cases c38 : x7_1.length < 8796093022208
      rotate_left
      ·exact nomatch (if_neg c38).symm.trans H
      rw [if_pos c38] at H
      have LMc38 := Aside0.mk c38
      clear c38
      obtain ⟨y262, hy262⟩ : ∃ y_ : List (S36), y_ = (x7_1 ++ [(⟨x8_1, wrap64 (x9_6 - 1)⟩ : S36)]) := ⟨_, rfl⟩
      rw [← hy262] at H
      try rw [Option.bind_some] at H
      have Ny262 := Aside0.mk hy262
      clear hy262
      have H' := Aside0.mk H
      clear H
      obtain ⟨Ao39, co39, eo39⟩ := Kd.R_slice HO_7.out
      subst eo39
      go_wp2_with (first | ((with_reducible refine gate_builtin (b := .append) (xs := #[.tmp 83, .tmp 88]) rfl ?_); at_builtin; refine Kd.R_append k36 (w0 := w) w.heap.size rfl (.tmp 83) (.tmp 88) 26 36 (.agg #[(.int .i64 0), (.int .i64 0)]) 16 rfl Tryz.underlying26 info36 rfl (by decide) (by omega) (.slice Ao39 x7_1.length co39) x7_1 (⟨x8_1, wrap64 (x9_6 - 1)⟩ : S36) [.int .i64 x8_1, .int .i64 (wrap64 (x9_6 - 1))] (fun _ => True) (fun _ => False) rfl rfl ?aP (fun _ hk => hk.elim) ?aF ?aO ?aB ?aS ?aL ?_; (case aP => exact k36_mkM _ _ _ (⟨x8_1, wrap64 (x9_6 - 1)⟩ : S36)); (case aB => exact bz); (case aF => exact (fun _ _ => trivial)); (case aO => exact (rz HO_7.out)); (case aS => exact (below_size bz)); (case aL => have := LMc38.out; omega); intro v263 w40 ho hb hg hat; rw [← Ny262.out] at ho; have n0_ := Aside0.mk (hb); have n1_ := Aside0.mk (ho); clear HB; clear HO_7; have HB := n0_; have HO264 := n1_; clear n0_ n1_; clear ho hb hg hat))
      go_roundg kj10
      case measure => have := HK1.out; have := HJ6.out; have := HJ10.out; omega
      case rel => exact ⟨(y262), (x9_6), ez, H', ⟨by have := HK1.out; have := HJ6.out; have := HJ10.out; omega⟩, ⟨rz HO264.out⟩, ⟨bz⟩⟩
     replace c25 := Bool.eq_false_iff.mpr c25
     subst c25
     rw [if_neg (show ¬ (false = true) by decide)] at H
     have H' := Aside0.mk H
     clear H
     go_wp2
     go_roundg kj10
     case measure => have := HK1.out; have := HJ6.out; have := HJ10.out; omega
     case rel => exact ⟨(x7_1), (x9_6), ez, H', ⟨by have := HK1.out; have := HJ6.out; have := HJ10.out; omega⟩, ⟨rz HO_7.out⟩, ⟨bz⟩⟩
  rw [if_neg c4] at H
  have c4b0 := decide_eq_false c4
  clear c4
  obtain rfl := Option.some.inj H
  go_wp2
  go_ret
  exact ⟨_, fz, rz HO_7.out, bz⟩
def burinref02_All.f  : Option ((List (S36))) := some (([(⟨0, 1114111⟩ : S36)] : List (S36)))
set_option maxHeartbeats 8000000 in
set_option maxRecDepth 100000 in
theorem burinref02_All.calls  (r : List (S36)) (w : World) (h : burinref02_All.f  = some r) :
  Calls Tryz.prog 65 #[] w fun e w' => ∃ v0_ : Value, e = .returned (v0_) ∧ Kd.R k36 36 w' w.heap.size (fun _ => True) v0_ r ∧ Below w.heap.size w w' := by
 have hu36 := Tryz.underlying36
 have HB := Aside0.mk (Below.refl w.heap.size w)
 have H : (some (([(⟨0, 1114111⟩ : S36)] : List (S36)))) = some r := h
 clear h
 obtain ⟨y265, hy265⟩ : ∃ y_ : List (S36), y_ = (([(⟨0, 1114111⟩ : S36)] : List (S36))) := ⟨_, rfl⟩
 rw [← hy265] at H
 try rw [Option.bind_some] at H
 have Ny265 := Aside0.mk hy265
 clear hy265
 obtain rfl := Option.some.inj H
 go_enter Tryz.func65, Tryz.ntmps65
 go_wp2_with (first | ((with_reducible refine gate_dst (N := 2) rfl ?_); refine Kd.R_lit k36 _ 36 ?hg (N := 2) ?hd (xs := ([(⟨0, 1114111⟩ : S36)] : List (S36))) (inner := [.int .i64 0, .int .i64 1114111]) (ok := fun _ => True) (okp := fun _ => True) ?hr ?hp (fun _ hk => hk) trivial (Below.refl _ _) (Nat.le_refl _) (by simp) ?_; (case hd => rfl); (case hg => rfl); (case hr => first | (go_simp; done) | (go_simp; rfl)); (case hp => exact (Reps.c2 (k36_mkM _ _ _ _) (Reps.none _ _))); intro v266 w1 ho2 hb hg_ hnew_; clear hg_ hnew_; (first | rw [← Ny265.out] at ho2 | (simp only [Int.reduceToNat] at ho2; rw [← Ny265.out] at ho2)); have HO267 := Aside0.mk (Kd.R_lower ho2 (below_size bz)); replace HB := hz hb; clear hb ho2))
 go_ret
 exact ⟨_, fz, rz HO267.out, bz⟩
def burinref02_Not.f (k : Nat) (l0 : List (S36)) : Option ((List (S36))) := (burinref02_All.f).bind fun t268 => ((burinref02_Make.f k 3 t268 l0).bind fun t271 => (some t271))
theorem burinref02_Not.mono : ∀ a0 k, LeO (burinref02_Not.f k a0) (burinref02_Not.f (k + 1) a0) := by
 intro a0 k
 unfold burinref02_Not.f
 repeat' first
   | (with_reducible exact burinref02_Make.mono _ _ _ _)
   | (with_reducible exact LeO.refl _)
   | (with_reducible exact LeO.none _)
   | (with_reducible refine LeO.ite ?_ ?_)
   | (with_reducible refine LeO.bind ?_ (fun _ => ?_))
   | exact burinref02_Make.mono _ _ _ _
   | exact LeO.none _
   | refine LeO.ite ?_ ?_
   | refine LeO.bind ?_ (fun _ => ?_)
set_option maxHeartbeats 8000000 in
set_option maxRecDepth 100000 in
theorem burinref02_Not.calls (k : Nat) (A0 : Option Addr) (c0 : Nat) (l0 : List (S36)) (r : List (S36)) (w : World) (hr0 : Kd.C k36 w A0 l0.length l0) (hc0 : l0.length ≤ c0) (h : burinref02_Not.f k l0 = some r) :
  Calls Tryz.prog 34 #[.slice A0 l0.length c0] w fun e w' => ∃ v0_ : Value, e = .returned (v0_) ∧ Kd.R k36 36 w' w.heap.size (fun _ => True) v0_ r ∧ Below w.heap.size w w' := by
 have HR0 := Aside0.mk hr0
 have HC0 := Aside0.mk hc0
 clear hr0 hc0
 have HB := Aside0.mk (Below.refl w.heap.size w)
 have H : ((burinref02_All.f).bind fun t268 => ((burinref02_Make.f k 3 t268 l0).bind fun t271 => (some t271))) = some r := h
 clear h
 replace H := Option.bind_eq_some_iff.mp H
 obtain ⟨t268, A20, H⟩ := H
 try dsimp only at H
 have A2 := Aside0.mk A20
 clear A20
 replace H := Option.bind_eq_some_iff.mp H
 obtain ⟨t271, A30, H⟩ := H
 try dsimp only at H
 have A3 := Aside0.mk A30
 clear A30
 obtain rfl := Option.some.inj H
 go_enter Tryz.func34, Tryz.ntmps34
 go_wp2_with (first | ((with_reducible refine gate_callee (f := 65) rfl ?_); refine goesL_ (some 3) rfl rfl Tryz.func65 kz rfl #[] rfl mz ?_; (with_reducible refine (burinref02_All.calls  t268 _ A2.out).mono ?_); rintro e w4 ⟨v269, rfl, ho0, hb⟩; refine ⟨_, rfl, ?_⟩; have HO270 := Aside0.mk (Kd.R_lower ho0 (below_size bz)); replace HB := hz hb; (try clear hb); (try clear ho0); obtain ⟨Ao5, co5, eo5⟩ := Kd.R_slice HO270.out; subst eo5) | ((with_reducible refine gate_callee (f := 64) rfl ?_); refine goesL_ (some 5) rfl rfl Tryz.func64 kz rfl #[.int .i64 3, .slice Ao5 t268.length co5, .slice A0 l0.length c0] rfl mz ?_; (with_reducible refine (burinref02_Make.calls k 3 _ _ t268 _ _ l0 t271 _ ?side1 ?side2 ?side3 ?side4 A3.out).mono ?_); (case side1 => exact cz (Kd.R_reads' HO270.out).2.2); (case side2 => exact (Kd.R_reads' HO270.out).2.1); (case side3 => repeat (first | exact (Kd.C_below HR0.out HB.out) | (with_reducible refine Kd.C_alloc ?_ _) | (with_reducible refine Kd.C_drewN ?_ _) | (with_reducible refine Kd.C_drew ?_))); (case side4 => exact HC0.out); rintro e w6 ⟨v272, rfl, ho0, hb⟩; refine ⟨_, rfl, ?_⟩; have HO273 := Aside0.mk (Kd.R_lower (Kd.R_new' ho0 (Kd.R_lt (rz HO270.out))) (below_size bz)); replace HO270 := Aside0.mk (Kd.R_elder' (rz HO270.out) (Kd.R_base ho0) hb); replace HB := hz hb; (try clear hb); (try clear ho0)))
 go_ret
 exact ⟨_, fz, rz (R_all HO273.out), bz⟩
def burinref07_Letter.f (a0 : Int) : Option (Bool) := if a0 ≥ 97 then (if a0 ≤ 122 then (some true) else (if a0 ≥ 65 then (some (decide (a0 ≤ 90))) else (some false))) else (if a0 ≥ 65 then (some (decide (a0 ≤ 90))) else (some false))
set_option maxHeartbeats 8000000 in
set_option maxRecDepth 100000 in
theorem burinref07_Letter.calls (a0 : Int) (r : Bool) (w : World) (h : burinref07_Letter.f a0 = some r) :
  Calls Tryz.prog 29 #[.int .u8 a0] w fun e w' => e = .returned (.bool r) ∧ Drawn0 w w' := by
 have H : (if a0 ≥ 97 then (if a0 ≤ 122 then (some true) else (if a0 ≥ 65 then (some (decide (a0 ≤ 90))) else (some false))) else (if a0 ≥ 65 then (some (decide (a0 ≤ 90))) else (some false))) = some r := h
 clear h
 by_cases c2 : a0 ≥ 97
 ·rw [if_pos c2] at H
  have c2b0 : decide (97 ≤ a0) = true := decide_eq_true c2
  clear c2
  by_cases c3 : a0 ≤ 122
  ·rw [if_pos c3] at H
   have c3b0 := decide_eq_true c3
   clear c3
   obtain rfl := Option.some.inj H
   go_enter Tryz.func29, Tryz.ntmps29
   go_wp2
   go_ret
   exact ⟨ez, dz⟩
  rw [if_neg c3] at H
  have c3b0 := decide_eq_false c3
  clear c3
  by_cases c4 : a0 ≥ 65
  ·rw [if_pos c4] at H
   have c4b0 : decide (65 ≤ a0) = true := decide_eq_true c4
   clear c4
   obtain rfl := Option.some.inj H
   go_enter Tryz.func29, Tryz.ntmps29
   go_wp2
   go_ret
   exact ⟨ez, dz⟩
  rw [if_neg c4] at H
  have c4b0 : decide (65 ≤ a0) = false := decide_eq_false c4
  clear c4
  obtain rfl := Option.some.inj H
  go_enter Tryz.func29, Tryz.ntmps29
  go_wp2
  go_ret
  exact ⟨ez, dz⟩
 rw [if_neg c2] at H
 have c2b0 : decide (97 ≤ a0) = false := decide_eq_false c2
 clear c2
 by_cases c5 : a0 ≥ 65
 ·rw [if_pos c5] at H
  have c5b0 : decide (65 ≤ a0) = true := decide_eq_true c5
  clear c5
  obtain rfl := Option.some.inj H
  go_enter Tryz.func29, Tryz.ntmps29
  go_wp2
  go_ret
  exact ⟨ez, dz⟩
 rw [if_neg c5] at H
 have c5b0 : decide (65 ≤ a0) = false := decide_eq_false c5
 clear c5
 obtain rfl := Option.some.inj H
 go_enter Tryz.func29, Tryz.ntmps29
 go_wp2
 go_ret
 exact ⟨ez, dz⟩
def burinref02_Norm.f (k : Nat) (l0 : List (S36)) : Option ((List (S36))) := (burinref02_Make.f k 1 l0 ([] : List (S36))).bind fun t274 => (some t274)
theorem burinref02_Norm.mono : ∀ a0 k, LeO (burinref02_Norm.f k a0) (burinref02_Norm.f (k + 1) a0) := by
 intro a0 k
 unfold burinref02_Norm.f
 repeat' first
   | (with_reducible exact burinref02_Make.mono _ _ _ _)
   | (with_reducible exact LeO.refl _)
   | (with_reducible exact LeO.none _)
   | (with_reducible refine LeO.ite ?_ ?_)
   | (with_reducible refine LeO.bind ?_ (fun _ => ?_))
   | exact burinref02_Make.mono _ _ _ _
   | exact LeO.none _
   | refine LeO.ite ?_ ?_
   | refine LeO.bind ?_ (fun _ => ?_)
set_option maxHeartbeats 8000000 in
set_option maxRecDepth 100000 in
theorem burinref02_Norm.calls (k : Nat) (A0 : Option Addr) (c0 : Nat) (l0 : List (S36)) (r : List (S36)) (w : World) (hr0 : Kd.C k36 w A0 l0.length l0) (hc0 : l0.length ≤ c0) (h : burinref02_Norm.f k l0 = some r) :
  Calls Tryz.prog 38 #[.slice A0 l0.length c0] w fun e w' => ∃ v0_ : Value, e = .returned (v0_) ∧ Kd.R k36 36 w' w.heap.size (fun _ => True) v0_ r ∧ Below w.heap.size w w' := by
 have HR0 := Aside0.mk hr0
 have HC0 := Aside0.mk hc0
 clear hr0 hc0
 have HB := Aside0.mk (Below.refl w.heap.size w)
 have H : ((burinref02_Make.f k 1 l0 ([] : List (S36))).bind fun t274 => (some t274)) = some r := h
 clear h
 replace H := Option.bind_eq_some_iff.mp H
 obtain ⟨t274, A20, H⟩ := H
 try dsimp only at H
 have A2 := Aside0.mk A20
 clear A20
 obtain rfl := Option.some.inj H
 go_enter Tryz.func38, Tryz.ntmps38
 go_wp2_with (first | ((with_reducible refine gate_callee (f := 64) rfl ?_); refine goesL_ (some 4) rfl rfl Tryz.func64 kz rfl #[.int .i64 1, .slice A0 l0.length c0, .slice none 0 0] rfl mz ?_; (refine (burinref02_Make.calls k 1 _ _ l0 _ _ ([] : List (S36)) t274 _ ?side1 ?side2 ?side3 ?side4 A2.out).mono ?_); (case side1 => repeat (first | exact HR0.out | (with_reducible refine Kd.C_alloc ?_ _) | (with_reducible refine Kd.C_drewN ?_ _) | (with_reducible refine Kd.C_drew ?_))); (case side2 => exact HC0.out); (case side3 => exact Kd.C_nil _ _); (case side4 => exact Nat.le_refl _); rintro e w3 ⟨v275, rfl, ho0, hb⟩; refine ⟨_, rfl, ?_⟩; have HO276 := Aside0.mk (Kd.R_lower ho0 (below_size bz)); replace HB := hz hb; (try clear hb); (try clear ho0)))
 go_ret
 exact ⟨_, fz, rz HO276.out, bz⟩
end Go.Proofs.YtheheijhijeljaaGreatDoor.HBracketReads
