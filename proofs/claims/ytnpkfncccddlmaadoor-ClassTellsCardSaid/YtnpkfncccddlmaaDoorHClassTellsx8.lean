-- Made by wip/hyb (a program of this session over the kit's print); its parts marked 'own text' are typed by hand.
import Derived.Test.YtnpkfncccddlmaaDoorHClassTellsx0
import Derived.Test.YtnpkfncccddlmaaDoorHClassTellsx4
import Derived.Test.YtnpkfncccddlmaaDoorHClassTellsx7
namespace Go.Proofs.YtnpkfncccddlmaaDoor.HClassTells
open Go.RowKit Go.Proofs.YtnpkfncccddlmaaDoorW.PrintWords Go.Proofs.YtnpkfncccddlmaaDoorW.PrintLast Go.Proofs.YtnpkfncccddlmaaDoorW.PrintMore
attribute [local go_sem] max2_int min2_int max_two min_two max_three min_three max_four min_four   -- for this text's walks alone
set_option linter.unusedVariables false
set_option linter.unusedSimpArgs false

/-! ### burinref04_list: function 28 -/
def burinref04_list.l0 : Nat → List Int → List (S42) → Int → Option ((List (S42)))
  | 0, _, _, _ => none
  | k + 1, x0, x3, x4 => if (wrap64 (x4 + 1)) < (x0.length : Int) then (if 0 ≤ x4 then (if x4 < (x0.length : Int) then (if 0 ≤ (wrap64 (x4 + 1)) then (if x3.length < 8796093022208 then (burinref04_list.l0 k x0 (x3 ++ [(⟨rd x0 x4, rd x0 (wrap64 (x4 + 1))⟩ : S42)]) (wrap64 (x4 + 2))) else (none)) else (none)) else (none)) else (none)) else ((burinref02_Norm.f k x3).bind fun t197 => (some t197))
def burinref04_list.f (k : Nat) (l0 : List Int) : Option ((List (S42))) := burinref04_list.l0 k l0 ([] : List (S42)) 0
theorem burinref04_list.mono_l : ∀ k, (∀ y0 y1 y2, LeO (burinref04_list.l0 k y0 y1 y2) (burinref04_list.l0 (k + 1) y0 y1 y2))
  | 0 => fun _ _ _ r h => by simp [burinref04_list.l0] at h
  | k + 1 => by
    have ih0 := burinref04_list.mono_l k
    · intro y0 y1 y2
      unfold burinref04_list.l0
      repeat' first
      | (with_reducible exact ih0 _ _ _)
      | (with_reducible exact burinref02_Norm.mono _ _)
      | (with_reducible exact LeO.refl _)
      | (with_reducible exact LeO.none _)
      | (with_reducible refine LeO.ite ?_ ?_)
      | (with_reducible refine LeO.bind ?_ (fun _ => ?_))
      | exact ih0 _ _ _
      | exact burinref02_Norm.mono _ _
      | exact LeO.none _
      | refine LeO.ite ?_ ?_
      | refine LeO.bind ?_ (fun _ => ?_)
theorem burinref04_list.mono : ∀ a0 k, LeO (burinref04_list.f k a0) (burinref04_list.f (k + 1) a0) := by
  intro a0 k
  have ih0 := burinref04_list.mono_l k
  unfold burinref04_list.f
  repeat' first
      | (with_reducible exact ih0 _ _ _)
      | (with_reducible exact burinref02_Norm.mono _ _)
      | (with_reducible exact LeO.refl _)
      | (with_reducible exact LeO.none _)
      | (with_reducible refine LeO.ite ?_ ?_)
      | (with_reducible refine LeO.bind ?_ (fun _ => ?_))
      | exact ih0 _ _ _
      | exact burinref02_Norm.mono _ _
      | exact LeO.none _
      | refine LeO.ite ?_ ?_
      | refine LeO.bind ?_ (fun _ => ?_)
def burinref04_list.T5 : Bool × List (List Nat × List Nat) := (true, [([], []), ([], []), ([], []), ([1, 2], [1, 2]), ([3], [3]), ([], []), ([], []), ([6], [6]), ([5, 7], [5, 7]), ([8], [8]), ([4, 9], [4, 9]), ([10], [10]), ([0, 11], [0, 11]), ([12, 12, 0, 1, 2, 3, 4, 5, 6, 7, 8, 9, 10, 11, 12], [0, 12])])
def burinref04_list.B5 : List Nat := [0, 0, 0, 6, 14, 0, 0, 64, 224, 480, 1022, 2046, 4095, 8191]
theorem burinref04_list.tab5 : rtab .any (opsOf Tryd.f28 5) = burinref04_list.T5 := by kernel_rfl
theorem burinref04_list.bits5 : waitsOk burinref04_list.T5.2 burinref04_list.B5 = true := by kernel_rfl
set_option maxHeartbeats 8000000 in
set_option maxRecDepth 100000 in
theorem burinref04_list.calls (k : Nat) (A0 : Option Addr) (c0 : Nat) (l0 : List Int) (r : List (S42)) (w : World) (hr0 : Kd.C (Kd.int .i64) w A0 l0.length l0) (hc0 : l0.length ≤ c0) (h : burinref04_list.f k l0 = some r) :
    Calls Tryd.prog 28 #[.slice A0 l0.length c0] w fun e w' => ∃ v0_ : Value, e = .returned (v0_) ∧ Kd.R k42 42 w' w.heap.size (fun _ => True) v0_ r ∧ Below w.heap.size w w' := by
  have hu42 := Tryd.underlying42
  have HR0 := Aside0.mk hr0
  have HC0 := Aside0.mk hc0
  clear hr0 hc0
  have HB := Aside0.mk (Below.refl w.heap.size w)
  have H : (burinref04_list.l0 k l0 ([] : List (S42)) 0) = some r := h
  clear h
  have H' := Aside0.mk H
  clear H
  go_enter Tryd.func28, Tryd.ntmps28
  go_wp2
  go_loopg [3, 4] k (fun kq v3 v4 w' => ∃ (x3_1 : List (S42)) (x4_1 : Int), v4 = .int .i64 x4_1 ∧ Aside0 (burinref04_list.l0 kq l0 x3_1 x4_1 = some r) ∧ Aside0 (kq ≤ k) ∧ Aside0 (Kd.R k42 42 w' w.heap.size (fun _ => True) v3 x3_1) ∧ Aside0 (Below w.heap.size w w'))
  case atStart => exact ⟨(([] : List (S42))), (0), (by first | rfl | (simp; done) | (simp [*]; done)), H', ⟨Nat.le_refl _⟩, ⟨by first | exact Kd.R_nil _ _ _ _ _ | exact Kd.N_nil _ _ _ _ _ | exact Kd.V_nil _ _ _ _ _ | exact Kd.Q_nil _ _ _ _ _ | exact Kd.S_nil _ _ _ _ _⟩, ⟨by repeat (first | (with_reducible first | exact HB.out | apply below_alloc | apply pw_below_drewN | apply below_drew1) | exact HB.out)⟩⟩
  case round =>
    clear H'
    obtain ⟨x3_1, x4_1, rfl, HA, HK1, HO_3, HB⟩ := hrel
    cases gk with
    | zero => exact absurd HA.out (by simp [burinref04_list.l0])
    | succ k1 =>
      have H := HA.out
      clear HA
      simp only [burinref04_list.l0] at H
      by_cases c2 : (wrap64 (x4_1 + 1)) < (l0.length : Int)
      · rw [if_pos c2] at H
        have c2b0 : decide ((wrap64 (x4_1 + 1)) < (l0.length : Int)) = true := decide_eq_true c2
        clear c2
        by_cases c3 : 0 ≤ x4_1
        · rw [if_pos c3] at H
          have c3b0 : decide (0 ≤ x4_1) = true := decide_eq_true c3
          clear c3
          by_cases c4 : x4_1 < (l0.length : Int)
          · rw [if_pos c4] at H
            have c4b0 : decide (x4_1 < (l0.length : Int)) = true := decide_eq_true c4
            clear c4
            obtain ⟨ji5, hji5⟩ : ∃ j_ : Int, (wrap64 (x4_1 + 1)) = j_ := ⟨_, rfl⟩
            replace H : (if 0 ≤ (ji5) then (if x3_1.length < 8796093022208 then (burinref04_list.l0 k1 l0 (x3_1 ++ [(⟨rd l0 x4_1, rd l0 (ji5)⟩ : S42)]) (wrap64 (x4_1 + 2))) else (none)) else (none)) = some r := by first | (rw [hji5] at H; exact H) | (simp only [hji5] at H ⊢; exact H)
            (try rw [hji5] at c2b0)
            have hji5w : (IntKind.i64.wrap (x4_1 + 1)) = ji5 := (i64_w _).trans hji5
            by_cases c6 : 0 ≤ (ji5)
            · rw [if_pos c6] at H
              have c6b0 : decide (0 ≤ (ji5)) = true := decide_eq_true c6
              clear c6
              by_cases c7 : x3_1.length < 8796093022208
              · rw [if_pos c7] at H
                have LMc7 := Aside0.mk c7
                clear c7
                obtain ⟨y194, hy194⟩ : ∃ y_ : List (S42), y_ = (x3_1 ++ [(⟨rd l0 x4_1, rd l0 (ji5)⟩ : S42)]) := ⟨_, rfl⟩
                replace H : (burinref04_list.l0 k1 l0 y194 (wrap64 (x4_1 + 2))) = some r := by first | (rw [hy194]; with_reducible exact H) | (have H2_ := (Option.bind_some _ _).symm.trans H; rw [hy194]; with_reducible exact H2_) | (have H2_ := (Option.bind_some _ _).symm.trans H; with_reducible exact H2_) | with_reducible exact H | (rw [hy194]; exact H) | exact H
                have Ny194 := Aside0.mk hy194
                clear hy194
                have H' := Aside0.mk H
                clear H
                try go_wp2
                have n0_ := Aside0.mk (Kd.R_drew HO_3.out)
                have n1_ := Aside0.mk (below_drew1 HB.out)
                clear HO_3
                clear HB
                have HO_3 := n0_
                have HB := n1_
                clear n0_ n1_
                have p192 : 0 ≤ (x4_1 : Int) := of_decide_eq_true (by first | (with_reducible assumption) | assumption)
                have q192 : x4_1 < (l0.length : Int) := of_decide_eq_true (by first | (with_reducible assumption) | assumption)
                obtain ⟨ad192, e192, hx192_0⟩ := Kd.at_int HR0.out x4_1 p192 q192
                have hw192_0 := hx192_0
                cases e192
                replace hx192_0 := (HB.out.cell (World.block_lt_of_cell? w _ hx192_0)).trans hx192_0
                replace p192 := eq_true p192
                replace q192 := eq_true q192
                have p193 : 0 ≤ ((ji5) : Int) := of_decide_eq_true (by first | (with_reducible assumption) | assumption)
                have q193 : (ji5) < (l0.length : Int) := of_decide_eq_true (by first | (with_reducible assumption) | assumption)
                obtain ⟨ad193, e193, hx193_0⟩ := Kd.at_int HR0.out (ji5) p193 q193
                have hw193_0 := hx193_0
                obtain rfl : ad192 = ad193 := (by injection e193)
                replace hx193_0 := (HB.out.cell (World.block_lt_of_cell? w _ hx193_0)).trans hx193_0
                replace p193 := eq_true p193
                replace q193 := eq_true q193
                refine start_ (n := 14) (S := fun w' => w'.cell? (ad192.add (x4_1).toNat) = some (.int .i64 (rd l0 x4_1)) ∧ w'.cell? (ad192.add ((ji5)).toNat) = some (.int .i64 (rd l0 (ji5)))) (ds := []) #[false, false, false, false, false, false, false, false, false, false, false, false, false, false] (by kernel_rfl) rfl rfl ⟨((HB.out.cell (World.block_lt_of_cell? w _ hw192_0)).trans hw192_0), ((HB.out.cell (World.block_lt_of_cell? w _ hw193_0)).trans hw193_0)⟩ (fun hHeld => ?_); refine with_tabW burinref04_list.tab5 burinref04_list.bits5 (fun HT_ HW_ => ?_)
                generalize wr.drew = w8 at HO_3 HB hx192_0 hx193_0 hHeld ⊢
                refine pure_ (i := 0) (N := some 12) (v := ?_) (a' := ?_) #[true, false, false, false, false, false, false, false, false, false, false, false, false, false] rfl rfl (any_of HT_.out (by kernel_rfl)) (fun _ _ _ h => h) (Or.inl ⟨by rfl, ?_⟩) ?_ ?_
                rotate_left
                · intro w'
                  go_simp
                  with_reducible rfl
                rotate_left
                · simp only [Act.put, List.setIfInBounds_toArray, List.set_cons_zero, List.set_cons_succ, i64_w, i32_w]
                  rfl
                refine pure_ (i := 1) (N := some 13) (v := ?_) (a' := ?_) #[true, true, false, false, false, false, false, false, false, false, false, false, false, false] rfl rfl (any_of HT_.out (by kernel_rfl)) (fun _ _ _ h => h) (Or.inl ⟨by rfl, ?_⟩) ?_ ?_
                rotate_left
                · intro w'
                  go_simp
                  with_reducible rfl
                rotate_left
                · simp only [Act.put, List.setIfInBounds_toArray, List.set_cons_zero, List.set_cons_succ, i64_w, i32_w]
                  rfl
                refine pure_ (i := 2) (N := some 14) (v := ?_) (a' := ?_) #[true, true, true, false, false, false, false, false, false, false, false, false, false, false] rfl rfl (any_of HT_.out (by kernel_rfl)) (fun _ _ _ h => h) (Or.inl ⟨by rfl, ?_⟩) ?_ ?_
                rotate_left
                · intro w'
                  go_simp
                  with_reducible rfl
                rotate_left
                · simp only [Act.put, List.setIfInBounds_toArray, List.set_cons_zero, List.set_cons_succ, i64_w, i32_w]
                  rfl
                refine pure_ (i := 3) (N := some 15) (v := ?_) (a' := ?_) #[true, true, true, true, false, false, false, false, false, false, false, false, false, false] rfl rfl (any_of HT_.out (by kernel_rfl)) (fun _ _ _ h => h) (Or.inl ⟨by rfl, ?_⟩) ?_ ?_
                rotate_left
                · intro w'
                  go_simp
                  with_reducible rfl
                rotate_left
                · simp only [Act.put, List.setIfInBounds_toArray, List.set_cons_zero, List.set_cons_succ, i64_w, i32_w]
                  rfl
                refine pure_ (i := 5) (N := some 17) (v := ?_) (a' := ?_) #[true, true, true, true, false, true, false, false, false, false, false, false, false, false] rfl rfl (any_of HT_.out (by kernel_rfl)) (fun _ _ _ h => h) (Or.inl ⟨by rfl, ?_⟩) ?_ ?_
                rotate_left
                · intro w'
                  go_simp
                  with_reducible rfl
                rotate_left
                · simp only [Act.put, List.setIfInBounds_toArray, List.set_cons_zero, List.set_cons_succ, i64_w, i32_w]
                  rfl
                refine pure_ (i := 6) (N := some 18) (v := ?_) (a' := ?_) #[true, true, true, true, false, true, true, false, false, false, false, false, false, false] rfl rfl (any_of HT_.out (by kernel_rfl)) (fun _ _ _ h => h) (Or.inl ⟨by rfl, ?_⟩) ?_ ?_
                rotate_left
                · intro w'
                  go_simp
                  with_reducible rfl
                rotate_left
                · simp only [Act.put, List.setIfInBounds_toArray, List.set_cons_zero, List.set_cons_succ, i64_w, i32_w]
                  rfl
                refine pure_ (i := 7) (N := some 19) (v := ?_) (a' := ?_) #[true, true, true, true, false, true, true, true, false, false, false, false, false, false] rfl rfl (any_of HT_.out (by kernel_rfl)) (fun _ _ _ h => h) (Or.inl ⟨by rfl, ?_⟩) ?_ ?_
                rotate_left
                · intro w'
                  go_simp
                  with_reducible rfl
                rotate_left
                · simp only [Act.put, List.setIfInBounds_toArray, List.set_cons_zero, List.set_cons_succ, i64_w, i32_w]
                  rfl
                refine pure_ (i := 8) (N := some 20) (v := ?_) (a' := ?_) #[true, true, true, true, false, true, true, true, true, false, false, false, false, false] rfl rfl (any_of HT_.out (by kernel_rfl)) (fun _ _ _ h => h) (Or.inl ⟨by rfl, ?_⟩) ?_ ?_
                rotate_left
                · intro w'
                  go_simp
                  with_reducible rfl
                rotate_left
                · simp only [Act.put, List.setIfInBounds_toArray, List.set_cons_zero, List.set_cons_succ, i64_w, i32_w]
                  rfl
                refine take_ (i := 4) (N := some 16) (v := ?_) (a' := ?_) #[true, true, true, true, true, true, true, true, true, false, false, false, false, false] rfl rfl (take_ofW HT_.out HW_.out (by kernel_rfl)) (fun _ _ _ h => h) (Or.inl ⟨by rfl, ?_⟩) hHeld ?_ ?_
                rotate_left
                · rintro w' ⟨s0, s1⟩
                  go_simp
                  with_reducible rfl
                rotate_left
                · simp only [Act.put, List.setIfInBounds_toArray, List.set_cons_zero, List.set_cons_succ, i64_w, i32_w]
                  rfl
                refine take_ (i := 9) (N := some 21) (v := ?_) (a' := ?_) #[true, true, true, true, true, true, true, true, true, true, false, false, false, false] rfl rfl (take_ofW HT_.out HW_.out (by kernel_rfl)) (fun _ _ _ h => h) (Or.inl ⟨by rfl, ?_⟩) hHeld ?_ ?_
                rotate_left
                · rintro w' ⟨s0, s1⟩
                  go_simp
                  with_reducible rfl
                rotate_left
                · simp only [Act.put, List.setIfInBounds_toArray, List.set_cons_zero, List.set_cons_succ, i64_w, i32_w]
                  rfl
                refine pure_ (i := 10) (N := some 22) (v := ?_) (a' := ?_) #[true, true, true, true, true, true, true, true, true, true, true, false, false, false] rfl rfl (any_of HT_.out (by kernel_rfl)) (fun _ _ _ h => h) (Or.inl ⟨by rfl, ?_⟩) ?_ ?_
                rotate_left
                · intro w'
                  go_simp
                  with_reducible rfl
                rotate_left
                · simp only [Act.put, List.setIfInBounds_toArray, List.set_cons_zero, List.set_cons_succ, i64_w, i32_w]
                  rfl
                refine one_ (i := 11) (N := some 23) #[true, true, true, true, true, true, true, true, true, true, true, true, false, false] rfl rfl (one_of HT_.out (by kernel_rfl)) (by decide) (fun K hK => ?_)
                refine value_ (w1 := ?_) (v := ?_) (by rfl) rfl ?_ ?_
                rotate_left 2
                · go_simp
                  constructor
                  · rfl
                  · rfl
                refine hK.out _ _ ⟨(World.cell?_alloc_lt _ _ _ (World.block_lt_of_cell? _ _ (((HB.out.cell (World.block_lt_of_cell? w _ hw192_0)).trans hw192_0)))).trans (((HB.out.cell (World.block_lt_of_cell? w _ hw192_0)).trans hw192_0)), (World.cell?_alloc_lt _ _ _ (World.block_lt_of_cell? _ _ (((HB.out.cell (World.block_lt_of_cell? w _ hw193_0)).trans hw193_0)))).trans (((HB.out.cell (World.block_lt_of_cell? w _ hw193_0)).trans hw193_0))⟩ (fun hHeld => ?_)
                clear hK K
                refine norm_ (a' := ?_) ?_ ?_
                rotate_left
                · show Act.put _ (some 23) _ = _
                  simp only [Act.put, List.setIfInBounds_toArray, List.set_cons_zero, List.set_cons_succ, i64_w, i32_w]
                  rfl
                refine one_ (i := 12) (N := some 24) #[true, true, true, true, true, true, true, true, true, true, true, true, true, false] rfl rfl (one_of HT_.out (by kernel_rfl)) (by decide) (fun K hK => ?_)
                refine Kd.R_append_step k42 (w0 := w) w.heap.size (by rfl) (.tmp 12) (.tmp 23) 22 42 (.agg #[(.int .i64 0), (.int .i64 0)]) 16 rfl Tryd.underlying22 info42 rfl (by decide) (by omega) u3 x3_1 (⟨rd l0 x4_1, rd l0 (ji5)⟩ : S42) [.int .i64 (rd l0 x4_1), .int .i64 (rd l0 (ji5))] (fun _ => True) (fun _ => False) rfl rfl ?aP (fun _ hk => hk.elim) ?aF ?aO ?aB ?aS ?aL ?_
                (case aP => exact k42_mkM _ _ _ (⟨rd l0 x4_1, rd l0 (ji5)⟩ : S42))
                (case aB => exact (by repeat (first | (with_reducible first | exact HB.out | apply below_alloc | apply pw_below_drewN | apply below_drew1) | exact HB.out)))
                (case aF => exact (fun _ _ => trivial))
                (case aO => exact (by (with_reducible repeat (first | apply Kd.R_alloc | apply Kd.R_drewN | apply Kd.R_drew)); exact HO_3.out))
                (case aS => exact (below_size (by repeat (first | (with_reducible first | exact HB.out | apply below_alloc | apply pw_below_drewN | apply below_drew1) | exact HB.out))))
                (case aL => have := LMc7.out; omega)
                intro v195 w9 ho hb hg hat
                rw [← Ny194.out] at ho
                have n0_ := Aside0.mk (hb)
                have n1_ := Aside0.mk (ho)
                clear HB
                clear HO_3
                have HB := n0_
                have HO196 := n1_
                clear n0_ n1_
                clear ho hb hg hat
                refine hK.out _ _ ⟨((HB.out.cell (World.block_lt_of_cell? w _ hw192_0)).trans hw192_0), ((HB.out.cell (World.block_lt_of_cell? w _ hw193_0)).trans hw193_0)⟩ (fun hHeld => ?_)
                clear hK K
                refine norm_ (a' := ?_) ?_ ?_
                rotate_left
                · show Act.put _ (some 24) _ = _
                  simp only [Act.put, List.setIfInBounds_toArray, List.set_cons_zero, List.set_cons_succ, i64_w, i32_w]
                  rfl
                refine pure_ (i := 13) (N := some 3) (v := ?_) (a' := ?_) #[true, true, true, true, true, true, true, true, true, true, true, true, true, true] rfl rfl (any_of HT_.out (by kernel_rfl)) (fun _ _ _ h => h) (Or.inl ⟨by rfl, ?_⟩) ?_ ?_
                rotate_left
                · intro w'
                  go_simp
                  with_reducible rfl
                rotate_left
                · simp only [Act.put, List.setIfInBounds_toArray, List.set_cons_zero, List.set_cons_succ, i64_w, i32_w]
                  rfl
                refine done_ (done_of HT_.out (by kernel_rfl)) ?_
                try go_wp2
                go_roundg k1
                case measure => have := HK1.out; omega
                case rel => exact ⟨(y194), (wrap64 (x4_1 + 2)), (by first | rfl | (simp; done) | (simp [*]; done)), H', ⟨by have := HK1.out; omega⟩, ⟨by (with_reducible repeat (first | apply Kd.R_alloc | apply Kd.R_drewN | apply Kd.R_drew)); exact HO196.out⟩, ⟨by repeat (first | (with_reducible first | exact HB.out | apply below_alloc | apply pw_below_drewN | apply below_drew1) | exact HB.out)⟩⟩
              · rw [if_neg c7] at H
                exact absurd H (by simp)
            · rw [if_neg c6] at H
              exact absurd H (by simp)
          · rw [if_neg c4] at H
            exact absurd H (by simp)
        · rw [if_neg c3] at H
          exact absurd H (by simp)
      · rw [if_neg c2] at H
        have c2b0 : decide ((wrap64 (x4_1 + 1)) < (l0.length : Int)) = false := decide_eq_false c2
        clear c2
        replace H := Option.bind_eq_some_iff.mp H
        obtain ⟨t197, A100, H⟩ := H
        replace H : (some t197) = some r := H
        have A10 := Aside0.mk A100
        clear A100
        obtain rfl := Option.some.inj H
        obtain ⟨Ao11, co11, eo11⟩ := Kd.R_slice HO_3.out
        subst eo11
        go_wp2_with (first | ((with_reducible refine gate_callee (f := 53) rfl ?_); refine goesL_ (some 26) rfl rfl Tryd.func53 (by kernel_rfl) rfl #[.slice Ao11 x3_1.length co11] rfl (by (try simp only [List.map_toArray, List.map_cons, List.map_nil]); first | done | rfl | (simp only [List.length_drop, List.length_take]; rfl)) ?_; (with_reducible refine (burinref02_Norm.calls k1 _ _ x3_1 t197 _ ?side1 ?side2 A10.out).mono ?_); (case side1 => repeat (first | exact (Kd.R_reads' HO_3.out).2.2 | (with_reducible refine Kd.C_alloc ?_ _) | (with_reducible refine Kd.C_drewN ?_ _) | (with_reducible refine Kd.C_drew ?_))); (case side2 => exact (Kd.R_reads' HO_3.out).2.1); rintro e w12 ⟨v198, rfl, ho0, hb⟩; refine ⟨_, rfl, ?_⟩; have n0_ := Aside0.mk (Kd.R_elder' (by (with_reducible repeat (first | apply Kd.R_alloc | apply Kd.R_drewN | apply Kd.R_drew)); exact HO_3.out) (Kd.R_base ho0) hb); have n1_ := Aside0.mk (Kd.R_lower (Kd.R_new' ho0 (Kd.R_lt (by (with_reducible repeat (first | apply Kd.R_alloc | apply Kd.R_drewN | apply Kd.R_drew)); exact HO_3.out))) (below_size (by repeat (first | (with_reducible first | exact HB.out | apply below_alloc | apply pw_below_drewN | apply below_drew1) | exact HB.out)))); have n2_ := Aside0.mk (below_step (by repeat (first | (with_reducible first | exact HB.out | apply below_alloc | apply pw_below_drewN | apply below_drew1) | exact HB.out)) hb); clear HO_3; clear HB; have HO_3 := n0_; have HO199 := n1_; have HB := n2_; clear n0_ n1_ n2_; (try clear hb); (try clear hb2); (try clear hk); (try clear hi); (try clear ho0)))
        go_ret
        exact ⟨_, by first | rfl | (simp [errW_none, errW_some] <;> rfl) | (simp [*, errW_none, errW_some] <;> rfl), by (with_reducible repeat (first | apply Kd.R_alloc | apply Kd.R_drewN | apply Kd.R_drew)); exact Kd.R_mono HO199.out (fun _ hk => trivial), by repeat (first | (with_reducible first | exact HB.out | apply below_alloc | apply pw_below_drewN | apply below_drew1) | exact HB.out)⟩

/-! ### burinref02_All: function 55 -/
def burinref02_All.f  : Option ((List (S42))) := some (([(⟨0, 1114111⟩ : S42)] : List (S42)))
set_option maxHeartbeats 8000000 in
set_option maxRecDepth 100000 in
theorem burinref02_All.calls  (r : List (S42)) (w : World) (h : burinref02_All.f  = some r) :
    Calls Tryd.prog 55 #[] w fun e w' => ∃ v0_ : Value, e = .returned (v0_) ∧ Kd.R k42 42 w' w.heap.size (fun _ => True) v0_ r ∧ Below w.heap.size w w' := by
  have hu42 := Tryd.underlying42
  have HB := Aside0.mk (Below.refl w.heap.size w)
  have H : (some (([(⟨0, 1114111⟩ : S42)] : List (S42)))) = some r := h
  clear h
  obtain ⟨y200, hy200⟩ : ∃ y_ : List (S42), y_ = (([(⟨0, 1114111⟩ : S42)] : List (S42))) := ⟨_, rfl⟩
  replace H : (some y200) = some r := by first | (rw [hy200]; with_reducible exact H) | (have H2_ := (Option.bind_some _ _).symm.trans H; rw [hy200]; with_reducible exact H2_) | (have H2_ := (Option.bind_some _ _).symm.trans H; with_reducible exact H2_) | with_reducible exact H | (rw [hy200]; exact H) | exact H
  have Ny200 := Aside0.mk hy200
  clear hy200
  obtain rfl := Option.some.inj H
  go_enter Tryd.func55, Tryd.ntmps55
  go_wp2_with (first | ((with_reducible refine gate_dst (N := 2) rfl ?_); refine Kd.R_lit k42 _ 42 ?hg (N := 2) ?hd (xs := ([(⟨0, 1114111⟩ : S42)] : List (S42))) (inner := [.int .i64 0, .int .i64 1114111]) (ok := fun _ => True) (okp := fun _ => True) ?hr ?hp (fun _ hk => hk) trivial (Below.refl _ _) (Nat.le_refl _) (by simp) ?_; (case hd => rfl); (case hg => rfl); (case hr => first | (go_simp; done) | (go_simp; rfl)); (case hp => exact (Reps.c2 (show Kd.M k42 _ _ _ (⟨0, 1114111⟩ : S42) [.int .i64 0, .int .i64 1114111] from (k42_mkM _ _ _ (⟨0, 1114111⟩ : S42) )) (Reps.none _ _))); intro v201 w1 ho2 hb hg_ hnew_; clear hg_ hnew_; (first | rw [← Ny200.out] at ho2 | (simp only [Int.reduceToNat] at ho2; rw [← Ny200.out] at ho2)); have n0_ := Aside0.mk (Kd.R_lower ho2 (below_size (by repeat (first | (with_reducible first | exact HB.out | apply below_alloc | apply pw_below_drewN | apply below_drew1) | exact HB.out)))); have n1_ := Aside0.mk (below_step (by repeat (first | (with_reducible first | exact HB.out | apply below_alloc | apply pw_below_drewN | apply below_drew1) | exact HB.out)) hb); clear HB; have HO202 := n0_; have HB := n1_; clear n0_ n1_; clear hb ho2))
  go_ret
  exact ⟨_, by first | rfl | (simp [errW_none, errW_some] <;> rfl) | (simp [*, errW_none, errW_some] <;> rfl), by (with_reducible repeat (first | apply Kd.R_alloc | apply Kd.R_drewN | apply Kd.R_drew)); exact HO202.out, by repeat (first | (with_reducible first | exact HB.out | apply below_alloc | apply pw_below_drewN | apply below_drew1) | exact HB.out)⟩

/-! ### burinref02_Not: function 29 -/
def burinref02_Not.f (k : Nat) (l0 : List (S42)) : Option ((List (S42))) := (burinref02_All.f).bind fun t203 => ((burinref02_Make.f k 3 t203 l0).bind fun t206 => (some t206))
theorem burinref02_Not.mono : ∀ a0 k, LeO (burinref02_Not.f k a0) (burinref02_Not.f (k + 1) a0) := by
  intro a0 k
  unfold burinref02_Not.f
  repeat' first
      | (with_reducible exact burinref02_Make.mono _ _ _ _)
      | (with_reducible exact LeO.refl _)
      | (with_reducible exact LeO.none _)
      | (with_reducible refine LeO.ite ?_ ?_)
      | (with_reducible refine LeO.bind ?_ (fun _ => ?_))
      | exact burinref02_Make.mono _ _ _ _
      | exact LeO.none _
      | refine LeO.ite ?_ ?_
      | refine LeO.bind ?_ (fun _ => ?_)
set_option maxHeartbeats 8000000 in
set_option maxRecDepth 100000 in
theorem burinref02_Not.calls (k : Nat) (A0 : Option Addr) (c0 : Nat) (l0 : List (S42)) (r : List (S42)) (w : World) (hr0 : Kd.C k42 w A0 l0.length l0) (hc0 : l0.length ≤ c0) (h : burinref02_Not.f k l0 = some r) :
    Calls Tryd.prog 29 #[.slice A0 l0.length c0] w fun e w' => ∃ v0_ : Value, e = .returned (v0_) ∧ Kd.R k42 42 w' w.heap.size (fun _ => True) v0_ r ∧ Below w.heap.size w w' := by
  have HR0 := Aside0.mk hr0
  have HC0 := Aside0.mk hc0
  clear hr0 hc0
  have HB := Aside0.mk (Below.refl w.heap.size w)
  have H : ((burinref02_All.f).bind fun t203 => ((burinref02_Make.f k 3 t203 l0).bind fun t206 => (some t206))) = some r := h
  clear h
  replace H := Option.bind_eq_some_iff.mp H
  obtain ⟨t203, A20, H⟩ := H
  replace H : ((burinref02_Make.f k 3 t203 l0).bind fun t206 => (some t206)) = some r := H
  have A2 := Aside0.mk A20
  clear A20
  replace H := Option.bind_eq_some_iff.mp H
  obtain ⟨t206, A30, H⟩ := H
  replace H : (some t206) = some r := H
  have A3 := Aside0.mk A30
  clear A30
  obtain rfl := Option.some.inj H
  go_enter Tryd.func29, Tryd.ntmps29
  go_wp2_with (first | ((with_reducible refine gate_callee (f := 55) rfl ?_); refine goesL_ (some 3) rfl rfl Tryd.func55 (by kernel_rfl) rfl #[] rfl (by (try simp only [List.map_toArray, List.map_cons, List.map_nil]); first | done | rfl | (simp only [List.length_drop, List.length_take]; rfl)) ?_; (with_reducible refine (burinref02_All.calls  t203 _ A2.out).mono ?_); rintro e w4 ⟨v204, rfl, ho0, hb⟩; refine ⟨_, rfl, ?_⟩; have n0_ := Aside0.mk (Kd.R_lower ho0 (below_size (by repeat (first | (with_reducible first | exact HB.out | apply below_alloc | apply pw_below_drewN | apply below_drew1) | exact HB.out)))); have n1_ := Aside0.mk (below_step (by repeat (first | (with_reducible first | exact HB.out | apply below_alloc | apply pw_below_drewN | apply below_drew1) | exact HB.out)) hb); clear HB; have HO205 := n0_; have HB := n1_; clear n0_ n1_; (try clear hb); (try clear hb2); (try clear hk); (try clear hi); (try clear ho0); obtain ⟨Ao5, co5, eo5⟩ := Kd.R_slice HO205.out; subst eo5) | ((with_reducible refine gate_callee (f := 54) rfl ?_); refine goesL_ (some 5) rfl rfl Tryd.func54 (by kernel_rfl) rfl #[.int .i64 3, .slice Ao5 t203.length co5, .slice A0 l0.length c0] rfl (by (try simp only [List.map_toArray, List.map_cons, List.map_nil]); first | done | rfl | (simp only [List.length_drop, List.length_take]; rfl)) ?_; (with_reducible refine (burinref02_Make.calls k 3 _ _ t203 _ _ l0 t206 _ ?side1 ?side2 ?side3 ?side4 A3.out).mono ?_); (case side1 => repeat (first | exact (Kd.R_reads' HO205.out).2.2 | (with_reducible refine Kd.C_alloc ?_ _) | (with_reducible refine Kd.C_drewN ?_ _) | (with_reducible refine Kd.C_drew ?_))); (case side2 => exact (Kd.R_reads' HO205.out).2.1); (case side3 => repeat (first | exact (Kd.C_below HR0.out HB.out) | (with_reducible refine Kd.C_alloc ?_ _) | (with_reducible refine Kd.C_drewN ?_ _) | (with_reducible refine Kd.C_drew ?_))); (case side4 => exact HC0.out); rintro e w6 ⟨v207, rfl, ho0, hb⟩; refine ⟨_, rfl, ?_⟩; have n0_ := Aside0.mk (Kd.R_elder' (by (with_reducible repeat (first | apply Kd.R_alloc | apply Kd.R_drewN | apply Kd.R_drew)); exact HO205.out) (Kd.R_base ho0) hb); have n1_ := Aside0.mk (Kd.R_lower (Kd.R_new' ho0 (Kd.R_lt (by (with_reducible repeat (first | apply Kd.R_alloc | apply Kd.R_drewN | apply Kd.R_drew)); exact HO205.out))) (below_size (by repeat (first | (with_reducible first | exact HB.out | apply below_alloc | apply pw_below_drewN | apply below_drew1) | exact HB.out)))); have n2_ := Aside0.mk (below_step (by repeat (first | (with_reducible first | exact HB.out | apply below_alloc | apply pw_below_drewN | apply below_drew1) | exact HB.out)) hb); clear HO205; clear HB; have HO205 := n0_; have HO208 := n1_; have HB := n2_; clear n0_ n1_ n2_; (try clear hb); (try clear hb2); (try clear hk); (try clear hi); (try clear ho0)))
  go_ret
  exact ⟨_, by first | rfl | (simp [errW_none, errW_some] <;> rfl) | (simp [*, errW_none, errW_some] <;> rfl), by (with_reducible repeat (first | apply Kd.R_alloc | apply Kd.R_drewN | apply Kd.R_drew)); exact Kd.R_mono HO208.out (fun _ hk => trivial), by repeat (first | (with_reducible first | exact HB.out | apply below_alloc | apply pw_below_drewN | apply below_drew1) | exact HB.out)⟩

/-! ### burinref04_word: function 30 -/
def burinref04_word.f  : Option (List Int) := some (([48, 57, 65, 90, 95, 95, 97, 122] : List Int))
set_option maxHeartbeats 8000000 in
set_option maxRecDepth 100000 in
theorem burinref04_word.calls  (r : List Int) (w : World) (h : burinref04_word.f  = some r) :
    Calls Tryd.prog 30 #[] w fun e w' => ∃ v0_ : Value, e = .returned (v0_) ∧ Kd.R (Kd.int .i64) 3 w' w.heap.size (fun _ => True) v0_ r ∧ Below w.heap.size w w' := by
  have HB := Aside0.mk (Below.refl w.heap.size w)
  have H : (some (([48, 57, 65, 90, 95, 95, 97, 122] : List Int))) = some r := h
  clear h
  obtain ⟨y209, hy209⟩ : ∃ y_ : List Int, y_ = (([48, 57, 65, 90, 95, 95, 97, 122] : List Int)) := ⟨_, rfl⟩
  replace H : (some y209) = some r := by first | (rw [hy209]; with_reducible exact H) | (have H2_ := (Option.bind_some _ _).symm.trans H; rw [hy209]; with_reducible exact H2_) | (have H2_ := (Option.bind_some _ _).symm.trans H; with_reducible exact H2_) | with_reducible exact H | (rw [hy209]; exact H) | exact H
  have Ny209 := Aside0.mk hy209
  clear hy209
  obtain rfl := Option.some.inj H
  go_enter Tryd.func30, Tryd.ntmps30
  go_wp2_with (first | ((with_reducible refine gate_dst (N := 1) rfl ?_); refine Kd.R_lit (Kd.int .i64) _ 3 ?hg (N := 1) ?hd (xs := ([48, 57, 65, 90, 95, 95, 97, 122] : List Int)) (inner := [.int .i64 48, .int .i64 57, .int .i64 65, .int .i64 90, .int .i64 95, .int .i64 95, .int .i64 97, .int .i64 122]) (ok := fun _ => True) (okp := fun _ => True) ?hr ?hp (fun _ hk => hk) trivial (Below.refl _ _) (Nat.le_refl _) (by simp) ?_; (case hd => rfl); (case hg => rfl); (case hr => first | (go_simp; done) | (go_simp; rfl)); (case hp => exact (Reps.one (show Kd.M (Kd.int .i64) _ _ _ 48 [.int .i64 48] from rfl) (Reps.one (show Kd.M (Kd.int .i64) _ _ _ 57 [.int .i64 57] from rfl) (Reps.one (show Kd.M (Kd.int .i64) _ _ _ 65 [.int .i64 65] from rfl) (Reps.one (show Kd.M (Kd.int .i64) _ _ _ 90 [.int .i64 90] from rfl) (Reps.one (show Kd.M (Kd.int .i64) _ _ _ 95 [.int .i64 95] from rfl) (Reps.one (show Kd.M (Kd.int .i64) _ _ _ 95 [.int .i64 95] from rfl) (Reps.one (show Kd.M (Kd.int .i64) _ _ _ 97 [.int .i64 97] from rfl) (Reps.one (show Kd.M (Kd.int .i64) _ _ _ 122 [.int .i64 122] from rfl) (Reps.none _ _)))))))))); intro v210 w1 ho2 hb hg_ hnew_; clear hg_ hnew_; (first | rw [← Ny209.out] at ho2 | (simp only [Int.reduceToNat] at ho2; rw [← Ny209.out] at ho2)); have n0_ := Aside0.mk (Kd.R_lower ho2 (below_size (by repeat (first | (with_reducible first | exact HB.out | apply below_alloc | apply pw_below_drewN | apply below_drew1) | exact HB.out)))); have n1_ := Aside0.mk (below_step (by repeat (first | (with_reducible first | exact HB.out | apply below_alloc | apply pw_below_drewN | apply below_drew1) | exact HB.out)) hb); clear HB; have HO211 := n0_; have HB := n1_; clear n0_ n1_; clear hb ho2))
  go_ret
  exact ⟨_, by first | rfl | (simp [errW_none, errW_some] <;> rfl) | (simp [*, errW_none, errW_some] <;> rfl), by (with_reducible repeat (first | apply Kd.R_alloc | apply Kd.R_drewN | apply Kd.R_drew)); exact HO211.out, by repeat (first | (with_reducible first | exact HB.out | apply below_alloc | apply pw_below_drewN | apply below_drew1) | exact HB.out)⟩

/-! ### burinref04_Letter: function 8 -/
def burinref04_Letter.f (k : Nat) (a0 : Int) : Option ((List (S42)) × Int) := if a0 = 100 then ((burinref04_list.f k (([48, 57] : List Int))).bind fun t215 => (some (t215, 0))) else (if a0 = 68 then ((burinref04_list.f k (([48, 57] : List Int))).bind fun t221 => ((burinref02_Not.f k t221).bind fun t224 => (some (t224, 0)))) else (if a0 = 115 then ((burinref04_list.f k (([9, 10, 12, 13, 32, 32] : List Int))).bind fun t230 => (some (t230, 0))) else (if a0 = 83 then ((burinref04_list.f k (([9, 10, 12, 13, 32, 32] : List Int))).bind fun t236 => ((burinref02_Not.f k t236).bind fun t239 => (some (t239, 0)))) else (if a0 = 119 then ((burinref04_word.f).bind fun t242 => ((burinref04_list.f k t242).bind fun t245 => (some (t245, 0)))) else (if a0 = 87 then ((burinref04_word.f).bind fun t248 => ((burinref04_list.f k t248).bind fun t251 => ((burinref02_Not.f k t251).bind fun t254 => (some (t254, 0))))) else (some (([] : List (S42)), 70)))))))
theorem burinref04_Letter.mono : ∀ a0 k, LeO (burinref04_Letter.f k a0) (burinref04_Letter.f (k + 1) a0) := by
  intro a0 k
  unfold burinref04_Letter.f
  repeat' first
      | (with_reducible exact burinref02_Not.mono _ _)
      | (with_reducible exact burinref04_list.mono _ _)
      | (with_reducible exact LeO.refl _)
      | (with_reducible exact LeO.none _)
      | (with_reducible refine LeO.ite ?_ ?_)
      | (with_reducible refine LeO.bind ?_ (fun _ => ?_))
      | exact burinref02_Not.mono _ _
      | exact burinref04_list.mono _ _
      | exact LeO.none _
      | refine LeO.ite ?_ ?_
      | refine LeO.bind ?_ (fun _ => ?_)
set_option maxHeartbeats 8000000 in
set_option maxRecDepth 100000 in
theorem burinref04_Letter.calls (k : Nat) (a0 : Int) (r1 : List (S42)) (r2 : Int) (w : World) (h : burinref04_Letter.f k a0 = some (r1, r2)) :
    Calls Tryd.prog 8 #[.int .u8 a0] w fun e w' => ∃ v0_ : Value, e = .returned (.tuple #[v0_, .int .i64 r2]) ∧ Kd.R k42 42 w' w.heap.size (fun _ => True) v0_ r1 ∧ Below w.heap.size w w' := by
  have HB := Aside0.mk (Below.refl w.heap.size w)
  have H : (if a0 = 100 then ((burinref04_list.f k (([48, 57] : List Int))).bind fun t215 => (some (t215, 0))) else (if a0 = 68 then ((burinref04_list.f k (([48, 57] : List Int))).bind fun t221 => ((burinref02_Not.f k t221).bind fun t224 => (some (t224, 0)))) else (if a0 = 115 then ((burinref04_list.f k (([9, 10, 12, 13, 32, 32] : List Int))).bind fun t230 => (some (t230, 0))) else (if a0 = 83 then ((burinref04_list.f k (([9, 10, 12, 13, 32, 32] : List Int))).bind fun t236 => ((burinref02_Not.f k t236).bind fun t239 => (some (t239, 0)))) else (if a0 = 119 then ((burinref04_word.f).bind fun t242 => ((burinref04_list.f k t242).bind fun t245 => (some (t245, 0)))) else (if a0 = 87 then ((burinref04_word.f).bind fun t248 => ((burinref04_list.f k t248).bind fun t251 => ((burinref02_Not.f k t251).bind fun t254 => (some (t254, 0))))) else (some (([] : List (S42)), 70)))))))) = some (r1, r2) := h
  clear h
  by_cases c2 : a0 = 100
  · rw [if_pos c2] at H
    have c2b0 : (a0 == 100) = true := beq_iff_eq.mpr c2
    have c2b1 : (a0 != 100) = false := bne_eq_false_iff_eq.mpr c2
    clear c2
    obtain ⟨y212, hy212⟩ : ∃ y_ : List Int, y_ = (([48, 57] : List Int)) := ⟨_, rfl⟩
    replace H : ((burinref04_list.f k y212).bind fun t215 => (some (t215, 0))) = some (r1, r2) := by first | (rw [hy212]; with_reducible exact H) | (have H2_ := (Option.bind_some _ _).symm.trans H; rw [hy212]; with_reducible exact H2_) | (have H2_ := (Option.bind_some _ _).symm.trans H; with_reducible exact H2_) | with_reducible exact H | (rw [hy212]; exact H) | exact H
    have Ny212 := Aside0.mk hy212
    clear hy212
    replace H := Option.bind_eq_some_iff.mp H
    obtain ⟨t215, A30, H⟩ := H
    replace H : (some (t215, 0)) = some (r1, r2) := H
    have A3 := Aside0.mk A30
    clear A30
    simp only [Option.some.injEq, Prod.mk.injEq] at H
    obtain ⟨rfl, rfl⟩ := H
    go_enter Tryd.func8, Tryd.ntmps8
    go_wp2_with (first | ((with_reducible refine gate_dst (N := 7) rfl ?_); refine Kd.R_lit (Kd.int .i64) _ 3 ?hg (N := 7) ?hd (xs := ([48, 57] : List Int)) (inner := [.int .i64 48, .int .i64 57]) (ok := fun _ => True) (okp := fun _ => True) ?hr ?hp (fun _ hk => hk) trivial (Below.refl _ _) (Nat.le_refl _) (by simp) ?_; (case hd => rfl); (case hg => rfl); (case hr => first | (go_simp; done) | (go_simp; rfl)); (case hp => exact (Reps.one (show Kd.M (Kd.int .i64) _ _ _ 48 [.int .i64 48] from rfl) (Reps.one (show Kd.M (Kd.int .i64) _ _ _ 57 [.int .i64 57] from rfl) (Reps.none _ _)))); intro v213 w4 ho5 hb hg_ hnew_; clear hg_ hnew_; (first | rw [← Ny212.out] at ho5 | (simp only [Int.reduceToNat] at ho5; rw [← Ny212.out] at ho5)); have n0_ := Aside0.mk (Kd.R_lower ho5 (below_size (by repeat (first | (with_reducible first | exact HB.out | apply below_alloc | apply pw_below_drewN | apply below_drew1) | exact HB.out)))); have n1_ := Aside0.mk (below_step (by repeat (first | (with_reducible first | exact HB.out | apply below_alloc | apply pw_below_drewN | apply below_drew1) | exact HB.out)) hb); clear HB; have HO214 := n0_; have HB := n1_; clear n0_ n1_; clear hb ho5; obtain ⟨Ao6, co6, eo6⟩ := Kd.R_slice HO214.out; subst eo6) | ((with_reducible refine gate_callee (f := 28) rfl ?_); refine goesL_ (some 8) rfl rfl Tryd.func28 (by kernel_rfl) rfl #[.slice Ao6 y212.length co6] rfl (by (try simp only [List.map_toArray, List.map_cons, List.map_nil]); first | done | rfl | (simp only [List.length_drop, List.length_take]; rfl)) ?_; (with_reducible refine (burinref04_list.calls k _ _ y212 t215 _ ?side1 ?side2 A3.out).mono ?_); (case side1 => repeat (first | exact (Kd.R_reads' HO214.out).2.2 | (with_reducible refine Kd.C_alloc ?_ _) | (with_reducible refine Kd.C_drewN ?_ _) | (with_reducible refine Kd.C_drew ?_))); (case side2 => exact (Kd.R_reads' HO214.out).2.1); rintro e w7 ⟨v216, rfl, ho0, hb⟩; refine ⟨_, rfl, ?_⟩; have n0_ := Aside0.mk (Kd.R_below (by (with_reducible repeat (first | apply Kd.R_alloc | apply Kd.R_drewN | apply Kd.R_drew)); exact HO214.out) hb); have n1_ := Aside0.mk (Kd.R_lower ho0 (below_size (by repeat (first | (with_reducible first | exact HB.out | apply below_alloc | apply pw_below_drewN | apply below_drew1) | exact HB.out)))); have n2_ := Aside0.mk (below_step (by repeat (first | (with_reducible first | exact HB.out | apply below_alloc | apply pw_below_drewN | apply below_drew1) | exact HB.out)) hb); clear HO214; clear HB; have HO214 := n0_; have HO217 := n1_; have HB := n2_; clear n0_ n1_ n2_; (try clear hb); (try clear hb2); (try clear hk); (try clear hi); (try clear ho0)))
    go_ret2
    exact ⟨_, by first | rfl | (simp [errW_none, errW_some] <;> rfl) | (simp [*, errW_none, errW_some] <;> rfl), by (with_reducible repeat (first | apply Kd.R_alloc | apply Kd.R_drewN | apply Kd.R_drew)); exact HO217.out, by repeat (first | (with_reducible first | exact HB.out | apply below_alloc | apply pw_below_drewN | apply below_drew1) | exact HB.out)⟩
  · rw [if_neg c2] at H
    have c2b0 : (a0 == 100) = false := beq_eq_false_iff_ne.mpr c2
    have c2b1 : (a0 != 100) = true := bne_iff_ne.mpr c2
    by_cases c8 : a0 = 68
    · rw [if_pos c8] at H
      have c8b0 : (a0 == 68) = true := beq_iff_eq.mpr c8
      have c8b1 : (a0 != 68) = false := bne_eq_false_iff_eq.mpr c8
      clear c8
      obtain ⟨y218, hy218⟩ : ∃ y_ : List Int, y_ = (([48, 57] : List Int)) := ⟨_, rfl⟩
      replace H : ((burinref04_list.f k y218).bind fun t221 => ((burinref02_Not.f k t221).bind fun t224 => (some (t224, 0)))) = some (r1, r2) := by first | (rw [hy218]; with_reducible exact H) | (have H2_ := (Option.bind_some _ _).symm.trans H; rw [hy218]; with_reducible exact H2_) | (have H2_ := (Option.bind_some _ _).symm.trans H; with_reducible exact H2_) | with_reducible exact H | (rw [hy218]; exact H) | exact H
      have Ny218 := Aside0.mk hy218
      clear hy218
      replace H := Option.bind_eq_some_iff.mp H
      obtain ⟨t221, A90, H⟩ := H
      replace H : ((burinref02_Not.f k t221).bind fun t224 => (some (t224, 0))) = some (r1, r2) := H
      have A9 := Aside0.mk A90
      clear A90
      replace H := Option.bind_eq_some_iff.mp H
      obtain ⟨t224, A100, H⟩ := H
      replace H : (some (t224, 0)) = some (r1, r2) := H
      have A10 := Aside0.mk A100
      clear A100
      simp only [Option.some.injEq, Prod.mk.injEq] at H
      obtain ⟨rfl, rfl⟩ := H
      go_enter Tryd.func8, Tryd.ntmps8
      go_wp2_with (first | ((with_reducible refine gate_dst (N := 11) rfl ?_); refine Kd.R_lit (Kd.int .i64) _ 3 ?hg (N := 11) ?hd (xs := ([48, 57] : List Int)) (inner := [.int .i64 48, .int .i64 57]) (ok := fun _ => True) (okp := fun _ => True) ?hr ?hp (fun _ hk => hk) trivial (Below.refl _ _) (Nat.le_refl _) (by simp) ?_; (case hd => rfl); (case hg => rfl); (case hr => first | (go_simp; done) | (go_simp; rfl)); (case hp => exact (Reps.one (show Kd.M (Kd.int .i64) _ _ _ 48 [.int .i64 48] from rfl) (Reps.one (show Kd.M (Kd.int .i64) _ _ _ 57 [.int .i64 57] from rfl) (Reps.none _ _)))); intro v219 w11 ho12 hb hg_ hnew_; clear hg_ hnew_; (first | rw [← Ny218.out] at ho12 | (simp only [Int.reduceToNat] at ho12; rw [← Ny218.out] at ho12)); have n0_ := Aside0.mk (Kd.R_lower ho12 (below_size (by repeat (first | (with_reducible first | exact HB.out | apply below_alloc | apply pw_below_drewN | apply below_drew1) | exact HB.out)))); have n1_ := Aside0.mk (below_step (by repeat (first | (with_reducible first | exact HB.out | apply below_alloc | apply pw_below_drewN | apply below_drew1) | exact HB.out)) hb); clear HB; have HO220 := n0_; have HB := n1_; clear n0_ n1_; clear hb ho12; obtain ⟨Ao13, co13, eo13⟩ := Kd.R_slice HO220.out; subst eo13) | ((with_reducible refine gate_callee (f := 28) rfl ?_); refine goesL_ (some 12) rfl rfl Tryd.func28 (by kernel_rfl) rfl #[.slice Ao13 y218.length co13] rfl (by (try simp only [List.map_toArray, List.map_cons, List.map_nil]); first | done | rfl | (simp only [List.length_drop, List.length_take]; rfl)) ?_; (with_reducible refine (burinref04_list.calls k _ _ y218 t221 _ ?side1 ?side2 A9.out).mono ?_); (case side1 => repeat (first | exact (Kd.R_reads' HO220.out).2.2 | (with_reducible refine Kd.C_alloc ?_ _) | (with_reducible refine Kd.C_drewN ?_ _) | (with_reducible refine Kd.C_drew ?_))); (case side2 => exact (Kd.R_reads' HO220.out).2.1); rintro e w14 ⟨v222, rfl, ho0, hb⟩; refine ⟨_, rfl, ?_⟩; have n0_ := Aside0.mk (Kd.R_below (by (with_reducible repeat (first | apply Kd.R_alloc | apply Kd.R_drewN | apply Kd.R_drew)); exact HO220.out) hb); have n1_ := Aside0.mk (Kd.R_lower ho0 (below_size (by repeat (first | (with_reducible first | exact HB.out | apply below_alloc | apply pw_below_drewN | apply below_drew1) | exact HB.out)))); have n2_ := Aside0.mk (below_step (by repeat (first | (with_reducible first | exact HB.out | apply below_alloc | apply pw_below_drewN | apply below_drew1) | exact HB.out)) hb); clear HO220; clear HB; have HO220 := n0_; have HO223 := n1_; have HB := n2_; clear n0_ n1_ n2_; (try clear hb); (try clear hb2); (try clear hk); (try clear hi); (try clear ho0); obtain ⟨Ao15, co15, eo15⟩ := Kd.R_slice HO223.out; subst eo15) | ((with_reducible refine gate_callee (f := 29) rfl ?_); refine goesL_ (some 13) rfl rfl Tryd.func29 (by kernel_rfl) rfl #[.slice Ao15 t221.length co15] rfl (by (try simp only [List.map_toArray, List.map_cons, List.map_nil]); first | done | rfl | (simp only [List.length_drop, List.length_take]; rfl)) ?_; (with_reducible refine (burinref02_Not.calls k _ _ t221 t224 _ ?side1 ?side2 A10.out).mono ?_); (case side1 => repeat (first | exact (Kd.R_reads' HO223.out).2.2 | (with_reducible refine Kd.C_alloc ?_ _) | (with_reducible refine Kd.C_drewN ?_ _) | (with_reducible refine Kd.C_drew ?_))); (case side2 => exact (Kd.R_reads' HO223.out).2.1); rintro e w16 ⟨v225, rfl, ho0, hb⟩; refine ⟨_, rfl, ?_⟩; have n0_ := Aside0.mk (Kd.R_below (by (with_reducible repeat (first | apply Kd.R_alloc | apply Kd.R_drewN | apply Kd.R_drew)); exact HO220.out) hb); have n1_ := Aside0.mk (Kd.R_elder' (by (with_reducible repeat (first | apply Kd.R_alloc | apply Kd.R_drewN | apply Kd.R_drew)); exact HO223.out) (Kd.R_base ho0) hb); have n2_ := Aside0.mk (Kd.R_lower (Kd.R_new' ho0 (Kd.R_lt (by (with_reducible repeat (first | apply Kd.R_alloc | apply Kd.R_drewN | apply Kd.R_drew)); exact HO223.out))) (below_size (by repeat (first | (with_reducible first | exact HB.out | apply below_alloc | apply pw_below_drewN | apply below_drew1) | exact HB.out)))); have n3_ := Aside0.mk (below_step (by repeat (first | (with_reducible first | exact HB.out | apply below_alloc | apply pw_below_drewN | apply below_drew1) | exact HB.out)) hb); clear HO220; clear HO223; clear HB; have HO220 := n0_; have HO223 := n1_; have HO226 := n2_; have HB := n3_; clear n0_ n1_ n2_ n3_; (try clear hb); (try clear hb2); (try clear hk); (try clear hi); (try clear ho0)))
      go_ret2
      exact ⟨_, by first | rfl | (simp [errW_none, errW_some] <;> rfl) | (simp [*, errW_none, errW_some] <;> rfl), by (with_reducible repeat (first | apply Kd.R_alloc | apply Kd.R_drewN | apply Kd.R_drew)); exact Kd.R_mono HO226.out (fun _ hk => trivial), by repeat (first | (with_reducible first | exact HB.out | apply below_alloc | apply pw_below_drewN | apply below_drew1) | exact HB.out)⟩
    · rw [if_neg c8] at H
      have c8b0 : (a0 == 68) = false := beq_eq_false_iff_ne.mpr c8
      have c8b1 : (a0 != 68) = true := bne_iff_ne.mpr c8
      by_cases c17 : a0 = 115
      · rw [if_pos c17] at H
        have c17b0 : (a0 == 115) = true := beq_iff_eq.mpr c17
        have c17b1 : (a0 != 115) = false := bne_eq_false_iff_eq.mpr c17
        clear c17
        obtain ⟨y227, hy227⟩ : ∃ y_ : List Int, y_ = (([9, 10, 12, 13, 32, 32] : List Int)) := ⟨_, rfl⟩
        replace H : ((burinref04_list.f k y227).bind fun t230 => (some (t230, 0))) = some (r1, r2) := by first | (rw [hy227]; with_reducible exact H) | (have H2_ := (Option.bind_some _ _).symm.trans H; rw [hy227]; with_reducible exact H2_) | (have H2_ := (Option.bind_some _ _).symm.trans H; with_reducible exact H2_) | with_reducible exact H | (rw [hy227]; exact H) | exact H
        have Ny227 := Aside0.mk hy227
        clear hy227
        replace H := Option.bind_eq_some_iff.mp H
        obtain ⟨t230, A180, H⟩ := H
        replace H : (some (t230, 0)) = some (r1, r2) := H
        have A18 := Aside0.mk A180
        clear A180
        simp only [Option.some.injEq, Prod.mk.injEq] at H
        obtain ⟨rfl, rfl⟩ := H
        go_enter Tryd.func8, Tryd.ntmps8
        go_wp2_with (first | ((with_reducible refine gate_dst (N := 16) rfl ?_); refine Kd.R_lit (Kd.int .i64) _ 3 ?hg (N := 16) ?hd (xs := ([9, 10, 12, 13, 32, 32] : List Int)) (inner := [.int .i64 9, .int .i64 10, .int .i64 12, .int .i64 13, .int .i64 32, .int .i64 32]) (ok := fun _ => True) (okp := fun _ => True) ?hr ?hp (fun _ hk => hk) trivial (Below.refl _ _) (Nat.le_refl _) (by simp) ?_; (case hd => rfl); (case hg => rfl); (case hr => first | (go_simp; done) | (go_simp; rfl)); (case hp => exact (Reps.one (show Kd.M (Kd.int .i64) _ _ _ 9 [.int .i64 9] from rfl) (Reps.one (show Kd.M (Kd.int .i64) _ _ _ 10 [.int .i64 10] from rfl) (Reps.one (show Kd.M (Kd.int .i64) _ _ _ 12 [.int .i64 12] from rfl) (Reps.one (show Kd.M (Kd.int .i64) _ _ _ 13 [.int .i64 13] from rfl) (Reps.one (show Kd.M (Kd.int .i64) _ _ _ 32 [.int .i64 32] from rfl) (Reps.one (show Kd.M (Kd.int .i64) _ _ _ 32 [.int .i64 32] from rfl) (Reps.none _ _)))))))); intro v228 w19 ho20 hb hg_ hnew_; clear hg_ hnew_; (first | rw [← Ny227.out] at ho20 | (simp only [Int.reduceToNat] at ho20; rw [← Ny227.out] at ho20)); have n0_ := Aside0.mk (Kd.R_lower ho20 (below_size (by repeat (first | (with_reducible first | exact HB.out | apply below_alloc | apply pw_below_drewN | apply below_drew1) | exact HB.out)))); have n1_ := Aside0.mk (below_step (by repeat (first | (with_reducible first | exact HB.out | apply below_alloc | apply pw_below_drewN | apply below_drew1) | exact HB.out)) hb); clear HB; have HO229 := n0_; have HB := n1_; clear n0_ n1_; clear hb ho20; obtain ⟨Ao21, co21, eo21⟩ := Kd.R_slice HO229.out; subst eo21) | ((with_reducible refine gate_callee (f := 28) rfl ?_); refine goesL_ (some 17) rfl rfl Tryd.func28 (by kernel_rfl) rfl #[.slice Ao21 y227.length co21] rfl (by (try simp only [List.map_toArray, List.map_cons, List.map_nil]); first | done | rfl | (simp only [List.length_drop, List.length_take]; rfl)) ?_; (with_reducible refine (burinref04_list.calls k _ _ y227 t230 _ ?side1 ?side2 A18.out).mono ?_); (case side1 => repeat (first | exact (Kd.R_reads' HO229.out).2.2 | (with_reducible refine Kd.C_alloc ?_ _) | (with_reducible refine Kd.C_drewN ?_ _) | (with_reducible refine Kd.C_drew ?_))); (case side2 => exact (Kd.R_reads' HO229.out).2.1); rintro e w22 ⟨v231, rfl, ho0, hb⟩; refine ⟨_, rfl, ?_⟩; have n0_ := Aside0.mk (Kd.R_below (by (with_reducible repeat (first | apply Kd.R_alloc | apply Kd.R_drewN | apply Kd.R_drew)); exact HO229.out) hb); have n1_ := Aside0.mk (Kd.R_lower ho0 (below_size (by repeat (first | (with_reducible first | exact HB.out | apply below_alloc | apply pw_below_drewN | apply below_drew1) | exact HB.out)))); have n2_ := Aside0.mk (below_step (by repeat (first | (with_reducible first | exact HB.out | apply below_alloc | apply pw_below_drewN | apply below_drew1) | exact HB.out)) hb); clear HO229; clear HB; have HO229 := n0_; have HO232 := n1_; have HB := n2_; clear n0_ n1_ n2_; (try clear hb); (try clear hb2); (try clear hk); (try clear hi); (try clear ho0)))
        go_ret2
        exact ⟨_, by first | rfl | (simp [errW_none, errW_some] <;> rfl) | (simp [*, errW_none, errW_some] <;> rfl), by (with_reducible repeat (first | apply Kd.R_alloc | apply Kd.R_drewN | apply Kd.R_drew)); exact HO232.out, by repeat (first | (with_reducible first | exact HB.out | apply below_alloc | apply pw_below_drewN | apply below_drew1) | exact HB.out)⟩
      · rw [if_neg c17] at H
        have c17b0 : (a0 == 115) = false := beq_eq_false_iff_ne.mpr c17
        have c17b1 : (a0 != 115) = true := bne_iff_ne.mpr c17
        by_cases c23 : a0 = 83
        · rw [if_pos c23] at H
          have c23b0 : (a0 == 83) = true := beq_iff_eq.mpr c23
          have c23b1 : (a0 != 83) = false := bne_eq_false_iff_eq.mpr c23
          clear c23
          obtain ⟨y233, hy233⟩ : ∃ y_ : List Int, y_ = (([9, 10, 12, 13, 32, 32] : List Int)) := ⟨_, rfl⟩
          replace H : ((burinref04_list.f k y233).bind fun t236 => ((burinref02_Not.f k t236).bind fun t239 => (some (t239, 0)))) = some (r1, r2) := by first | (rw [hy233]; with_reducible exact H) | (have H2_ := (Option.bind_some _ _).symm.trans H; rw [hy233]; with_reducible exact H2_) | (have H2_ := (Option.bind_some _ _).symm.trans H; with_reducible exact H2_) | with_reducible exact H | (rw [hy233]; exact H) | exact H
          have Ny233 := Aside0.mk hy233
          clear hy233
          replace H := Option.bind_eq_some_iff.mp H
          obtain ⟨t236, A240, H⟩ := H
          replace H : ((burinref02_Not.f k t236).bind fun t239 => (some (t239, 0))) = some (r1, r2) := H
          have A24 := Aside0.mk A240
          clear A240
          replace H := Option.bind_eq_some_iff.mp H
          obtain ⟨t239, A250, H⟩ := H
          replace H : (some (t239, 0)) = some (r1, r2) := H
          have A25 := Aside0.mk A250
          clear A250
          simp only [Option.some.injEq, Prod.mk.injEq] at H
          obtain ⟨rfl, rfl⟩ := H
          go_enter Tryd.func8, Tryd.ntmps8
          go_wp2_with (first | ((with_reducible refine gate_dst (N := 20) rfl ?_); refine Kd.R_lit (Kd.int .i64) _ 3 ?hg (N := 20) ?hd (xs := ([9, 10, 12, 13, 32, 32] : List Int)) (inner := [.int .i64 9, .int .i64 10, .int .i64 12, .int .i64 13, .int .i64 32, .int .i64 32]) (ok := fun _ => True) (okp := fun _ => True) ?hr ?hp (fun _ hk => hk) trivial (Below.refl _ _) (Nat.le_refl _) (by simp) ?_; (case hd => rfl); (case hg => rfl); (case hr => first | (go_simp; done) | (go_simp; rfl)); (case hp => exact (Reps.one (show Kd.M (Kd.int .i64) _ _ _ 9 [.int .i64 9] from rfl) (Reps.one (show Kd.M (Kd.int .i64) _ _ _ 10 [.int .i64 10] from rfl) (Reps.one (show Kd.M (Kd.int .i64) _ _ _ 12 [.int .i64 12] from rfl) (Reps.one (show Kd.M (Kd.int .i64) _ _ _ 13 [.int .i64 13] from rfl) (Reps.one (show Kd.M (Kd.int .i64) _ _ _ 32 [.int .i64 32] from rfl) (Reps.one (show Kd.M (Kd.int .i64) _ _ _ 32 [.int .i64 32] from rfl) (Reps.none _ _)))))))); intro v234 w26 ho27 hb hg_ hnew_; clear hg_ hnew_; (first | rw [← Ny233.out] at ho27 | (simp only [Int.reduceToNat] at ho27; rw [← Ny233.out] at ho27)); have n0_ := Aside0.mk (Kd.R_lower ho27 (below_size (by repeat (first | (with_reducible first | exact HB.out | apply below_alloc | apply pw_below_drewN | apply below_drew1) | exact HB.out)))); have n1_ := Aside0.mk (below_step (by repeat (first | (with_reducible first | exact HB.out | apply below_alloc | apply pw_below_drewN | apply below_drew1) | exact HB.out)) hb); clear HB; have HO235 := n0_; have HB := n1_; clear n0_ n1_; clear hb ho27; obtain ⟨Ao28, co28, eo28⟩ := Kd.R_slice HO235.out; subst eo28) | ((with_reducible refine gate_callee (f := 28) rfl ?_); refine goesL_ (some 21) rfl rfl Tryd.func28 (by kernel_rfl) rfl #[.slice Ao28 y233.length co28] rfl (by (try simp only [List.map_toArray, List.map_cons, List.map_nil]); first | done | rfl | (simp only [List.length_drop, List.length_take]; rfl)) ?_; (with_reducible refine (burinref04_list.calls k _ _ y233 t236 _ ?side1 ?side2 A24.out).mono ?_); (case side1 => repeat (first | exact (Kd.R_reads' HO235.out).2.2 | (with_reducible refine Kd.C_alloc ?_ _) | (with_reducible refine Kd.C_drewN ?_ _) | (with_reducible refine Kd.C_drew ?_))); (case side2 => exact (Kd.R_reads' HO235.out).2.1); rintro e w29 ⟨v237, rfl, ho0, hb⟩; refine ⟨_, rfl, ?_⟩; have n0_ := Aside0.mk (Kd.R_below (by (with_reducible repeat (first | apply Kd.R_alloc | apply Kd.R_drewN | apply Kd.R_drew)); exact HO235.out) hb); have n1_ := Aside0.mk (Kd.R_lower ho0 (below_size (by repeat (first | (with_reducible first | exact HB.out | apply below_alloc | apply pw_below_drewN | apply below_drew1) | exact HB.out)))); have n2_ := Aside0.mk (below_step (by repeat (first | (with_reducible first | exact HB.out | apply below_alloc | apply pw_below_drewN | apply below_drew1) | exact HB.out)) hb); clear HO235; clear HB; have HO235 := n0_; have HO238 := n1_; have HB := n2_; clear n0_ n1_ n2_; (try clear hb); (try clear hb2); (try clear hk); (try clear hi); (try clear ho0); obtain ⟨Ao30, co30, eo30⟩ := Kd.R_slice HO238.out; subst eo30) | ((with_reducible refine gate_callee (f := 29) rfl ?_); refine goesL_ (some 22) rfl rfl Tryd.func29 (by kernel_rfl) rfl #[.slice Ao30 t236.length co30] rfl (by (try simp only [List.map_toArray, List.map_cons, List.map_nil]); first | done | rfl | (simp only [List.length_drop, List.length_take]; rfl)) ?_; (with_reducible refine (burinref02_Not.calls k _ _ t236 t239 _ ?side1 ?side2 A25.out).mono ?_); (case side1 => repeat (first | exact (Kd.R_reads' HO238.out).2.2 | (with_reducible refine Kd.C_alloc ?_ _) | (with_reducible refine Kd.C_drewN ?_ _) | (with_reducible refine Kd.C_drew ?_))); (case side2 => exact (Kd.R_reads' HO238.out).2.1); rintro e w31 ⟨v240, rfl, ho0, hb⟩; refine ⟨_, rfl, ?_⟩; have n0_ := Aside0.mk (Kd.R_below (by (with_reducible repeat (first | apply Kd.R_alloc | apply Kd.R_drewN | apply Kd.R_drew)); exact HO235.out) hb); have n1_ := Aside0.mk (Kd.R_elder' (by (with_reducible repeat (first | apply Kd.R_alloc | apply Kd.R_drewN | apply Kd.R_drew)); exact HO238.out) (Kd.R_base ho0) hb); have n2_ := Aside0.mk (Kd.R_lower (Kd.R_new' ho0 (Kd.R_lt (by (with_reducible repeat (first | apply Kd.R_alloc | apply Kd.R_drewN | apply Kd.R_drew)); exact HO238.out))) (below_size (by repeat (first | (with_reducible first | exact HB.out | apply below_alloc | apply pw_below_drewN | apply below_drew1) | exact HB.out)))); have n3_ := Aside0.mk (below_step (by repeat (first | (with_reducible first | exact HB.out | apply below_alloc | apply pw_below_drewN | apply below_drew1) | exact HB.out)) hb); clear HO235; clear HO238; clear HB; have HO235 := n0_; have HO238 := n1_; have HO241 := n2_; have HB := n3_; clear n0_ n1_ n2_ n3_; (try clear hb); (try clear hb2); (try clear hk); (try clear hi); (try clear ho0)))
          go_ret2
          exact ⟨_, by first | rfl | (simp [errW_none, errW_some] <;> rfl) | (simp [*, errW_none, errW_some] <;> rfl), by (with_reducible repeat (first | apply Kd.R_alloc | apply Kd.R_drewN | apply Kd.R_drew)); exact Kd.R_mono HO241.out (fun _ hk => trivial), by repeat (first | (with_reducible first | exact HB.out | apply below_alloc | apply pw_below_drewN | apply below_drew1) | exact HB.out)⟩
        · rw [if_neg c23] at H
          have c23b0 : (a0 == 83) = false := beq_eq_false_iff_ne.mpr c23
          have c23b1 : (a0 != 83) = true := bne_iff_ne.mpr c23
          by_cases c32 : a0 = 119
          · rw [if_pos c32] at H
            have c32b0 : (a0 == 119) = true := beq_iff_eq.mpr c32
            have c32b1 : (a0 != 119) = false := bne_eq_false_iff_eq.mpr c32
            clear c32
            replace H := Option.bind_eq_some_iff.mp H
            obtain ⟨t242, A330, H⟩ := H
            replace H : ((burinref04_list.f k t242).bind fun t245 => (some (t245, 0))) = some (r1, r2) := H
            have A33 := Aside0.mk A330
            clear A330
            replace H := Option.bind_eq_some_iff.mp H
            obtain ⟨t245, A340, H⟩ := H
            replace H : (some (t245, 0)) = some (r1, r2) := H
            have A34 := Aside0.mk A340
            clear A340
            simp only [Option.some.injEq, Prod.mk.injEq] at H
            obtain ⟨rfl, rfl⟩ := H
            go_enter Tryd.func8, Tryd.ntmps8
            go_wp2_with (first | ((with_reducible refine gate_callee (f := 30) rfl ?_); refine goesL_ (some 25) rfl rfl Tryd.func30 (by kernel_rfl) rfl #[] rfl (by (try simp only [List.map_toArray, List.map_cons, List.map_nil]); first | done | rfl | (simp only [List.length_drop, List.length_take]; rfl)) ?_; (with_reducible refine (burinref04_word.calls  t242 _ A33.out).mono ?_); rintro e w35 ⟨v243, rfl, ho0, hb⟩; refine ⟨_, rfl, ?_⟩; have n0_ := Aside0.mk (Kd.R_lower ho0 (below_size (by repeat (first | (with_reducible first | exact HB.out | apply below_alloc | apply pw_below_drewN | apply below_drew1) | exact HB.out)))); have n1_ := Aside0.mk (below_step (by repeat (first | (with_reducible first | exact HB.out | apply below_alloc | apply pw_below_drewN | apply below_drew1) | exact HB.out)) hb); clear HB; have HO244 := n0_; have HB := n1_; clear n0_ n1_; (try clear hb); (try clear hb2); (try clear hk); (try clear hi); (try clear ho0); obtain ⟨Ao36, co36, eo36⟩ := Kd.R_slice HO244.out; subst eo36) | ((with_reducible refine gate_callee (f := 28) rfl ?_); refine goesL_ (some 26) rfl rfl Tryd.func28 (by kernel_rfl) rfl #[.slice Ao36 t242.length co36] rfl (by (try simp only [List.map_toArray, List.map_cons, List.map_nil]); first | done | rfl | (simp only [List.length_drop, List.length_take]; rfl)) ?_; (with_reducible refine (burinref04_list.calls k _ _ t242 t245 _ ?side1 ?side2 A34.out).mono ?_); (case side1 => repeat (first | exact (Kd.R_reads' HO244.out).2.2 | (with_reducible refine Kd.C_alloc ?_ _) | (with_reducible refine Kd.C_drewN ?_ _) | (with_reducible refine Kd.C_drew ?_))); (case side2 => exact (Kd.R_reads' HO244.out).2.1); rintro e w37 ⟨v246, rfl, ho0, hb⟩; refine ⟨_, rfl, ?_⟩; have n0_ := Aside0.mk (Kd.R_below (by (with_reducible repeat (first | apply Kd.R_alloc | apply Kd.R_drewN | apply Kd.R_drew)); exact HO244.out) hb); have n1_ := Aside0.mk (Kd.R_lower ho0 (below_size (by repeat (first | (with_reducible first | exact HB.out | apply below_alloc | apply pw_below_drewN | apply below_drew1) | exact HB.out)))); have n2_ := Aside0.mk (below_step (by repeat (first | (with_reducible first | exact HB.out | apply below_alloc | apply pw_below_drewN | apply below_drew1) | exact HB.out)) hb); clear HO244; clear HB; have HO244 := n0_; have HO247 := n1_; have HB := n2_; clear n0_ n1_ n2_; (try clear hb); (try clear hb2); (try clear hk); (try clear hi); (try clear ho0)))
            go_ret2
            exact ⟨_, by first | rfl | (simp [errW_none, errW_some] <;> rfl) | (simp [*, errW_none, errW_some] <;> rfl), by (with_reducible repeat (first | apply Kd.R_alloc | apply Kd.R_drewN | apply Kd.R_drew)); exact HO247.out, by repeat (first | (with_reducible first | exact HB.out | apply below_alloc | apply pw_below_drewN | apply below_drew1) | exact HB.out)⟩
          · rw [if_neg c32] at H
            have c32b0 : (a0 == 119) = false := beq_eq_false_iff_ne.mpr c32
            have c32b1 : (a0 != 119) = true := bne_iff_ne.mpr c32
            by_cases c38 : a0 = 87
            · rw [if_pos c38] at H
              have c38b0 : (a0 == 87) = true := beq_iff_eq.mpr c38
              have c38b1 : (a0 != 87) = false := bne_eq_false_iff_eq.mpr c38
              clear c38
              replace H := Option.bind_eq_some_iff.mp H
              obtain ⟨t248, A390, H⟩ := H
              replace H : ((burinref04_list.f k t248).bind fun t251 => ((burinref02_Not.f k t251).bind fun t254 => (some (t254, 0)))) = some (r1, r2) := H
              have A39 := Aside0.mk A390
              clear A390
              replace H := Option.bind_eq_some_iff.mp H
              obtain ⟨t251, A400, H⟩ := H
              replace H : ((burinref02_Not.f k t251).bind fun t254 => (some (t254, 0))) = some (r1, r2) := H
              have A40 := Aside0.mk A400
              clear A400
              replace H := Option.bind_eq_some_iff.mp H
              obtain ⟨t254, A410, H⟩ := H
              replace H : (some (t254, 0)) = some (r1, r2) := H
              have A41 := Aside0.mk A410
              clear A410
              simp only [Option.some.injEq, Prod.mk.injEq] at H
              obtain ⟨rfl, rfl⟩ := H
              go_enter Tryd.func8, Tryd.ntmps8
              go_wp2_with (first | ((with_reducible refine gate_callee (f := 30) rfl ?_); refine goesL_ (some 29) rfl rfl Tryd.func30 (by kernel_rfl) rfl #[] rfl (by (try simp only [List.map_toArray, List.map_cons, List.map_nil]); first | done | rfl | (simp only [List.length_drop, List.length_take]; rfl)) ?_; (with_reducible refine (burinref04_word.calls  t248 _ A39.out).mono ?_); rintro e w42 ⟨v249, rfl, ho0, hb⟩; refine ⟨_, rfl, ?_⟩; have n0_ := Aside0.mk (Kd.R_lower ho0 (below_size (by repeat (first | (with_reducible first | exact HB.out | apply below_alloc | apply pw_below_drewN | apply below_drew1) | exact HB.out)))); have n1_ := Aside0.mk (below_step (by repeat (first | (with_reducible first | exact HB.out | apply below_alloc | apply pw_below_drewN | apply below_drew1) | exact HB.out)) hb); clear HB; have HO250 := n0_; have HB := n1_; clear n0_ n1_; (try clear hb); (try clear hb2); (try clear hk); (try clear hi); (try clear ho0); obtain ⟨Ao43, co43, eo43⟩ := Kd.R_slice HO250.out; subst eo43) | ((with_reducible refine gate_callee (f := 28) rfl ?_); refine goesL_ (some 30) rfl rfl Tryd.func28 (by kernel_rfl) rfl #[.slice Ao43 t248.length co43] rfl (by (try simp only [List.map_toArray, List.map_cons, List.map_nil]); first | done | rfl | (simp only [List.length_drop, List.length_take]; rfl)) ?_; (with_reducible refine (burinref04_list.calls k _ _ t248 t251 _ ?side1 ?side2 A40.out).mono ?_); (case side1 => repeat (first | exact (Kd.R_reads' HO250.out).2.2 | (with_reducible refine Kd.C_alloc ?_ _) | (with_reducible refine Kd.C_drewN ?_ _) | (with_reducible refine Kd.C_drew ?_))); (case side2 => exact (Kd.R_reads' HO250.out).2.1); rintro e w44 ⟨v252, rfl, ho0, hb⟩; refine ⟨_, rfl, ?_⟩; have n0_ := Aside0.mk (Kd.R_below (by (with_reducible repeat (first | apply Kd.R_alloc | apply Kd.R_drewN | apply Kd.R_drew)); exact HO250.out) hb); have n1_ := Aside0.mk (Kd.R_lower ho0 (below_size (by repeat (first | (with_reducible first | exact HB.out | apply below_alloc | apply pw_below_drewN | apply below_drew1) | exact HB.out)))); have n2_ := Aside0.mk (below_step (by repeat (first | (with_reducible first | exact HB.out | apply below_alloc | apply pw_below_drewN | apply below_drew1) | exact HB.out)) hb); clear HO250; clear HB; have HO250 := n0_; have HO253 := n1_; have HB := n2_; clear n0_ n1_ n2_; (try clear hb); (try clear hb2); (try clear hk); (try clear hi); (try clear ho0); obtain ⟨Ao45, co45, eo45⟩ := Kd.R_slice HO253.out; subst eo45) | ((with_reducible refine gate_callee (f := 29) rfl ?_); refine goesL_ (some 31) rfl rfl Tryd.func29 (by kernel_rfl) rfl #[.slice Ao45 t251.length co45] rfl (by (try simp only [List.map_toArray, List.map_cons, List.map_nil]); first | done | rfl | (simp only [List.length_drop, List.length_take]; rfl)) ?_; (with_reducible refine (burinref02_Not.calls k _ _ t251 t254 _ ?side1 ?side2 A41.out).mono ?_); (case side1 => repeat (first | exact (Kd.R_reads' HO253.out).2.2 | (with_reducible refine Kd.C_alloc ?_ _) | (with_reducible refine Kd.C_drewN ?_ _) | (with_reducible refine Kd.C_drew ?_))); (case side2 => exact (Kd.R_reads' HO253.out).2.1); rintro e w46 ⟨v255, rfl, ho0, hb⟩; refine ⟨_, rfl, ?_⟩; have n0_ := Aside0.mk (Kd.R_below (by (with_reducible repeat (first | apply Kd.R_alloc | apply Kd.R_drewN | apply Kd.R_drew)); exact HO250.out) hb); have n1_ := Aside0.mk (Kd.R_elder' (by (with_reducible repeat (first | apply Kd.R_alloc | apply Kd.R_drewN | apply Kd.R_drew)); exact HO253.out) (Kd.R_base ho0) hb); have n2_ := Aside0.mk (Kd.R_lower (Kd.R_new' ho0 (Kd.R_lt (by (with_reducible repeat (first | apply Kd.R_alloc | apply Kd.R_drewN | apply Kd.R_drew)); exact HO253.out))) (below_size (by repeat (first | (with_reducible first | exact HB.out | apply below_alloc | apply pw_below_drewN | apply below_drew1) | exact HB.out)))); have n3_ := Aside0.mk (below_step (by repeat (first | (with_reducible first | exact HB.out | apply below_alloc | apply pw_below_drewN | apply below_drew1) | exact HB.out)) hb); clear HO250; clear HO253; clear HB; have HO250 := n0_; have HO253 := n1_; have HO256 := n2_; have HB := n3_; clear n0_ n1_ n2_ n3_; (try clear hb); (try clear hb2); (try clear hk); (try clear hi); (try clear ho0)))
              go_ret2
              exact ⟨_, by first | rfl | (simp [errW_none, errW_some] <;> rfl) | (simp [*, errW_none, errW_some] <;> rfl), by (with_reducible repeat (first | apply Kd.R_alloc | apply Kd.R_drewN | apply Kd.R_drew)); exact Kd.R_mono HO256.out (fun _ hk => trivial), by repeat (first | (with_reducible first | exact HB.out | apply below_alloc | apply pw_below_drewN | apply below_drew1) | exact HB.out)⟩
            · rw [if_neg c38] at H
              have c38b0 : (a0 == 87) = false := beq_eq_false_iff_ne.mpr c38
              have c38b1 : (a0 != 87) = true := bne_iff_ne.mpr c38
              simp only [Option.some.injEq, Prod.mk.injEq] at H
              obtain ⟨rfl, rfl⟩ := H
              go_enter Tryd.func8, Tryd.ntmps8
              go_wp2
              go_ret2
              exact ⟨_, by first | rfl | (simp [errW_none, errW_some] <;> rfl) | (simp [*, errW_none, errW_some] <;> rfl), by first | exact Kd.R_nil _ _ _ _ _ | exact Kd.N_nil _ _ _ _ _ | exact Kd.V_nil _ _ _ _ _ | exact Kd.Q_nil _ _ _ _ _ | exact Kd.S_nil _ _ _ _ _, by repeat (first | (with_reducible first | exact HB.out | apply below_alloc | apply pw_below_drewN | apply below_drew1) | exact HB.out)⟩

/-! ### class_colons: function 31 -/
def class_colons.f  : Option ((List (S56))) := some (([(⟨(⟨#[97, 108, 110, 117, 109]⟩ : ByteArray), (⟨#[51, 48, 45, 51, 57, 32, 52, 49, 45, 53, 65, 32, 54, 49, 45, 55, 65]⟩ : ByteArray)⟩ : S56), (⟨(⟨#[97, 108, 112, 104, 97]⟩ : ByteArray), (⟨#[52, 49, 45, 53, 65, 32, 54, 49, 45, 55, 65]⟩ : ByteArray)⟩ : S56), (⟨(⟨#[97, 115, 99, 105, 105]⟩ : ByteArray), (⟨#[48, 45, 55, 70]⟩ : ByteArray)⟩ : S56), (⟨(⟨#[98, 108, 97, 110, 107]⟩ : ByteArray), (⟨#[57, 32, 50, 48]⟩ : ByteArray)⟩ : S56), (⟨(⟨#[99, 110, 116, 114, 108]⟩ : ByteArray), (⟨#[48, 45, 49, 70, 32, 55, 70]⟩ : ByteArray)⟩ : S56), (⟨(⟨#[100, 105, 103, 105, 116]⟩ : ByteArray), (⟨#[51, 48, 45, 51, 57]⟩ : ByteArray)⟩ : S56), (⟨(⟨#[103, 114, 97, 112, 104]⟩ : ByteArray), (⟨#[50, 49, 45, 55, 69]⟩ : ByteArray)⟩ : S56), (⟨(⟨#[108, 111, 119, 101, 114]⟩ : ByteArray), (⟨#[54, 49, 45, 55, 65]⟩ : ByteArray)⟩ : S56), (⟨(⟨#[112, 114, 105, 110, 116]⟩ : ByteArray), (⟨#[50, 48, 45, 55, 69]⟩ : ByteArray)⟩ : S56), (⟨(⟨#[112, 117, 110, 99, 116]⟩ : ByteArray), (⟨#[50, 49, 45, 50, 70, 32, 51, 65, 45, 52, 48, 32, 53, 66, 45, 54, 48, 32, 55, 66, 45, 55, 69]⟩ : ByteArray)⟩ : S56), (⟨(⟨#[115, 112, 97, 99, 101]⟩ : ByteArray), (⟨#[57, 45, 68, 32, 50, 48]⟩ : ByteArray)⟩ : S56), (⟨(⟨#[117, 112, 112, 101, 114]⟩ : ByteArray), (⟨#[52, 49, 45, 53, 65]⟩ : ByteArray)⟩ : S56), (⟨(⟨#[119, 111, 114, 100]⟩ : ByteArray), (⟨#[51, 48, 45, 51, 57, 32, 52, 49, 45, 53, 65, 32, 53, 70, 32, 54, 49, 45, 55, 65]⟩ : ByteArray)⟩ : S56), (⟨(⟨#[120, 100, 105, 103, 105, 116]⟩ : ByteArray), (⟨#[51, 48, 45, 51, 57, 32, 52, 49, 45, 52, 54, 32, 54, 49, 45, 54, 54]⟩ : ByteArray)⟩ : S56)] : List (S56)))
set_option maxHeartbeats 8000000 in
set_option maxRecDepth 100000 in
theorem class_colons.calls  (r : List (S56)) (w : World) (h : class_colons.f  = some r) :
    Calls Tryd.prog 31 #[] w fun e w' => ∃ v0_ : Value, e = .returned (v0_) ∧ Kd.R k56 56 w' w.heap.size (fun _ => True) v0_ r ∧ Below w.heap.size w w' := by
  have hu56 := Tryd.underlying56
  have HB := Aside0.mk (Below.refl w.heap.size w)
  have H : (some (([(⟨(⟨#[97, 108, 110, 117, 109]⟩ : ByteArray), (⟨#[51, 48, 45, 51, 57, 32, 52, 49, 45, 53, 65, 32, 54, 49, 45, 55, 65]⟩ : ByteArray)⟩ : S56), (⟨(⟨#[97, 108, 112, 104, 97]⟩ : ByteArray), (⟨#[52, 49, 45, 53, 65, 32, 54, 49, 45, 55, 65]⟩ : ByteArray)⟩ : S56), (⟨(⟨#[97, 115, 99, 105, 105]⟩ : ByteArray), (⟨#[48, 45, 55, 70]⟩ : ByteArray)⟩ : S56), (⟨(⟨#[98, 108, 97, 110, 107]⟩ : ByteArray), (⟨#[57, 32, 50, 48]⟩ : ByteArray)⟩ : S56), (⟨(⟨#[99, 110, 116, 114, 108]⟩ : ByteArray), (⟨#[48, 45, 49, 70, 32, 55, 70]⟩ : ByteArray)⟩ : S56), (⟨(⟨#[100, 105, 103, 105, 116]⟩ : ByteArray), (⟨#[51, 48, 45, 51, 57]⟩ : ByteArray)⟩ : S56), (⟨(⟨#[103, 114, 97, 112, 104]⟩ : ByteArray), (⟨#[50, 49, 45, 55, 69]⟩ : ByteArray)⟩ : S56), (⟨(⟨#[108, 111, 119, 101, 114]⟩ : ByteArray), (⟨#[54, 49, 45, 55, 65]⟩ : ByteArray)⟩ : S56), (⟨(⟨#[112, 114, 105, 110, 116]⟩ : ByteArray), (⟨#[50, 48, 45, 55, 69]⟩ : ByteArray)⟩ : S56), (⟨(⟨#[112, 117, 110, 99, 116]⟩ : ByteArray), (⟨#[50, 49, 45, 50, 70, 32, 51, 65, 45, 52, 48, 32, 53, 66, 45, 54, 48, 32, 55, 66, 45, 55, 69]⟩ : ByteArray)⟩ : S56), (⟨(⟨#[115, 112, 97, 99, 101]⟩ : ByteArray), (⟨#[57, 45, 68, 32, 50, 48]⟩ : ByteArray)⟩ : S56), (⟨(⟨#[117, 112, 112, 101, 114]⟩ : ByteArray), (⟨#[52, 49, 45, 53, 65]⟩ : ByteArray)⟩ : S56), (⟨(⟨#[119, 111, 114, 100]⟩ : ByteArray), (⟨#[51, 48, 45, 51, 57, 32, 52, 49, 45, 53, 65, 32, 53, 70, 32, 54, 49, 45, 55, 65]⟩ : ByteArray)⟩ : S56), (⟨(⟨#[120, 100, 105, 103, 105, 116]⟩ : ByteArray), (⟨#[51, 48, 45, 51, 57, 32, 52, 49, 45, 52, 54, 32, 54, 49, 45, 54, 54]⟩ : ByteArray)⟩ : S56)] : List (S56)))) = some r := h
  clear h
  obtain ⟨y257, hy257⟩ : ∃ y_ : List (S56), y_ = (([(⟨(⟨#[97, 108, 110, 117, 109]⟩ : ByteArray), (⟨#[51, 48, 45, 51, 57, 32, 52, 49, 45, 53, 65, 32, 54, 49, 45, 55, 65]⟩ : ByteArray)⟩ : S56), (⟨(⟨#[97, 108, 112, 104, 97]⟩ : ByteArray), (⟨#[52, 49, 45, 53, 65, 32, 54, 49, 45, 55, 65]⟩ : ByteArray)⟩ : S56), (⟨(⟨#[97, 115, 99, 105, 105]⟩ : ByteArray), (⟨#[48, 45, 55, 70]⟩ : ByteArray)⟩ : S56), (⟨(⟨#[98, 108, 97, 110, 107]⟩ : ByteArray), (⟨#[57, 32, 50, 48]⟩ : ByteArray)⟩ : S56), (⟨(⟨#[99, 110, 116, 114, 108]⟩ : ByteArray), (⟨#[48, 45, 49, 70, 32, 55, 70]⟩ : ByteArray)⟩ : S56), (⟨(⟨#[100, 105, 103, 105, 116]⟩ : ByteArray), (⟨#[51, 48, 45, 51, 57]⟩ : ByteArray)⟩ : S56), (⟨(⟨#[103, 114, 97, 112, 104]⟩ : ByteArray), (⟨#[50, 49, 45, 55, 69]⟩ : ByteArray)⟩ : S56), (⟨(⟨#[108, 111, 119, 101, 114]⟩ : ByteArray), (⟨#[54, 49, 45, 55, 65]⟩ : ByteArray)⟩ : S56), (⟨(⟨#[112, 114, 105, 110, 116]⟩ : ByteArray), (⟨#[50, 48, 45, 55, 69]⟩ : ByteArray)⟩ : S56), (⟨(⟨#[112, 117, 110, 99, 116]⟩ : ByteArray), (⟨#[50, 49, 45, 50, 70, 32, 51, 65, 45, 52, 48, 32, 53, 66, 45, 54, 48, 32, 55, 66, 45, 55, 69]⟩ : ByteArray)⟩ : S56), (⟨(⟨#[115, 112, 97, 99, 101]⟩ : ByteArray), (⟨#[57, 45, 68, 32, 50, 48]⟩ : ByteArray)⟩ : S56), (⟨(⟨#[117, 112, 112, 101, 114]⟩ : ByteArray), (⟨#[52, 49, 45, 53, 65]⟩ : ByteArray)⟩ : S56), (⟨(⟨#[119, 111, 114, 100]⟩ : ByteArray), (⟨#[51, 48, 45, 51, 57, 32, 52, 49, 45, 53, 65, 32, 53, 70, 32, 54, 49, 45, 55, 65]⟩ : ByteArray)⟩ : S56), (⟨(⟨#[120, 100, 105, 103, 105, 116]⟩ : ByteArray), (⟨#[51, 48, 45, 51, 57, 32, 52, 49, 45, 52, 54, 32, 54, 49, 45, 54, 54]⟩ : ByteArray)⟩ : S56)] : List (S56))) := ⟨_, rfl⟩
  replace H : (some y257) = some r := by first | (rw [hy257]; with_reducible exact H) | (have H2_ := (Option.bind_some _ _).symm.trans H; rw [hy257]; with_reducible exact H2_) | (have H2_ := (Option.bind_some _ _).symm.trans H; with_reducible exact H2_) | with_reducible exact H | (rw [hy257]; exact H) | exact H
  have Ny257 := Aside0.mk hy257
  clear hy257
  obtain rfl := Option.some.inj H
  go_enter Tryd.func31, Tryd.ntmps31
  go_wp2_with (first | ((with_reducible refine gate_dst (N := 15) rfl ?_); refine Kd.R_lit k56 _ 56 ?hg (N := 15) ?hd (xs := ([(⟨(⟨#[97, 108, 110, 117, 109]⟩ : ByteArray), (⟨#[51, 48, 45, 51, 57, 32, 52, 49, 45, 53, 65, 32, 54, 49, 45, 55, 65]⟩ : ByteArray)⟩ : S56), (⟨(⟨#[97, 108, 112, 104, 97]⟩ : ByteArray), (⟨#[52, 49, 45, 53, 65, 32, 54, 49, 45, 55, 65]⟩ : ByteArray)⟩ : S56), (⟨(⟨#[97, 115, 99, 105, 105]⟩ : ByteArray), (⟨#[48, 45, 55, 70]⟩ : ByteArray)⟩ : S56), (⟨(⟨#[98, 108, 97, 110, 107]⟩ : ByteArray), (⟨#[57, 32, 50, 48]⟩ : ByteArray)⟩ : S56), (⟨(⟨#[99, 110, 116, 114, 108]⟩ : ByteArray), (⟨#[48, 45, 49, 70, 32, 55, 70]⟩ : ByteArray)⟩ : S56), (⟨(⟨#[100, 105, 103, 105, 116]⟩ : ByteArray), (⟨#[51, 48, 45, 51, 57]⟩ : ByteArray)⟩ : S56), (⟨(⟨#[103, 114, 97, 112, 104]⟩ : ByteArray), (⟨#[50, 49, 45, 55, 69]⟩ : ByteArray)⟩ : S56), (⟨(⟨#[108, 111, 119, 101, 114]⟩ : ByteArray), (⟨#[54, 49, 45, 55, 65]⟩ : ByteArray)⟩ : S56), (⟨(⟨#[112, 114, 105, 110, 116]⟩ : ByteArray), (⟨#[50, 48, 45, 55, 69]⟩ : ByteArray)⟩ : S56), (⟨(⟨#[112, 117, 110, 99, 116]⟩ : ByteArray), (⟨#[50, 49, 45, 50, 70, 32, 51, 65, 45, 52, 48, 32, 53, 66, 45, 54, 48, 32, 55, 66, 45, 55, 69]⟩ : ByteArray)⟩ : S56), (⟨(⟨#[115, 112, 97, 99, 101]⟩ : ByteArray), (⟨#[57, 45, 68, 32, 50, 48]⟩ : ByteArray)⟩ : S56), (⟨(⟨#[117, 112, 112, 101, 114]⟩ : ByteArray), (⟨#[52, 49, 45, 53, 65]⟩ : ByteArray)⟩ : S56), (⟨(⟨#[119, 111, 114, 100]⟩ : ByteArray), (⟨#[51, 48, 45, 51, 57, 32, 52, 49, 45, 53, 65, 32, 53, 70, 32, 54, 49, 45, 55, 65]⟩ : ByteArray)⟩ : S56), (⟨(⟨#[120, 100, 105, 103, 105, 116]⟩ : ByteArray), (⟨#[51, 48, 45, 51, 57, 32, 52, 49, 45, 52, 54, 32, 54, 49, 45, 54, 54]⟩ : ByteArray)⟩ : S56)] : List (S56))) (inner := [.string (⟨#[97, 108, 110, 117, 109]⟩ : ByteArray), .string (⟨#[51, 48, 45, 51, 57, 32, 52, 49, 45, 53, 65, 32, 54, 49, 45, 55, 65]⟩ : ByteArray), .string (⟨#[97, 108, 112, 104, 97]⟩ : ByteArray), .string (⟨#[52, 49, 45, 53, 65, 32, 54, 49, 45, 55, 65]⟩ : ByteArray), .string (⟨#[97, 115, 99, 105, 105]⟩ : ByteArray), .string (⟨#[48, 45, 55, 70]⟩ : ByteArray), .string (⟨#[98, 108, 97, 110, 107]⟩ : ByteArray), .string (⟨#[57, 32, 50, 48]⟩ : ByteArray), .string (⟨#[99, 110, 116, 114, 108]⟩ : ByteArray), .string (⟨#[48, 45, 49, 70, 32, 55, 70]⟩ : ByteArray), .string (⟨#[100, 105, 103, 105, 116]⟩ : ByteArray), .string (⟨#[51, 48, 45, 51, 57]⟩ : ByteArray), .string (⟨#[103, 114, 97, 112, 104]⟩ : ByteArray), .string (⟨#[50, 49, 45, 55, 69]⟩ : ByteArray), .string (⟨#[108, 111, 119, 101, 114]⟩ : ByteArray), .string (⟨#[54, 49, 45, 55, 65]⟩ : ByteArray), .string (⟨#[112, 114, 105, 110, 116]⟩ : ByteArray), .string (⟨#[50, 48, 45, 55, 69]⟩ : ByteArray), .string (⟨#[112, 117, 110, 99, 116]⟩ : ByteArray), .string (⟨#[50, 49, 45, 50, 70, 32, 51, 65, 45, 52, 48, 32, 53, 66, 45, 54, 48, 32, 55, 66, 45, 55, 69]⟩ : ByteArray), .string (⟨#[115, 112, 97, 99, 101]⟩ : ByteArray), .string (⟨#[57, 45, 68, 32, 50, 48]⟩ : ByteArray), .string (⟨#[117, 112, 112, 101, 114]⟩ : ByteArray), .string (⟨#[52, 49, 45, 53, 65]⟩ : ByteArray), .string (⟨#[119, 111, 114, 100]⟩ : ByteArray), .string (⟨#[51, 48, 45, 51, 57, 32, 52, 49, 45, 53, 65, 32, 53, 70, 32, 54, 49, 45, 55, 65]⟩ : ByteArray), .string (⟨#[120, 100, 105, 103, 105, 116]⟩ : ByteArray), .string (⟨#[51, 48, 45, 51, 57, 32, 52, 49, 45, 52, 54, 32, 54, 49, 45, 54, 54]⟩ : ByteArray)]) (ok := fun _ => True) (okp := fun _ => True) ?hr ?hp (fun _ hk => hk) trivial (Below.refl _ _) (Nat.le_refl _) (by simp) ?_; (case hd => rfl); (case hg => rfl); (case hr => first | (go_simp; done) | (go_simp; rfl)); (case hp => exact (Reps.c2 (show Kd.M k56 _ _ _ (⟨(⟨#[97, 108, 110, 117, 109]⟩ : ByteArray), (⟨#[51, 48, 45, 51, 57, 32, 52, 49, 45, 53, 65, 32, 54, 49, 45, 55, 65]⟩ : ByteArray)⟩ : S56) [.string (⟨#[97, 108, 110, 117, 109]⟩ : ByteArray), .string (⟨#[51, 48, 45, 51, 57, 32, 52, 49, 45, 53, 65, 32, 54, 49, 45, 55, 65]⟩ : ByteArray)] from (k56_mkM _ _ _ (⟨(⟨#[97, 108, 110, 117, 109]⟩ : ByteArray), (⟨#[51, 48, 45, 51, 57, 32, 52, 49, 45, 53, 65, 32, 54, 49, 45, 55, 65]⟩ : ByteArray)⟩ : S56) )) (Reps.c2 (show Kd.M k56 _ _ _ (⟨(⟨#[97, 108, 112, 104, 97]⟩ : ByteArray), (⟨#[52, 49, 45, 53, 65, 32, 54, 49, 45, 55, 65]⟩ : ByteArray)⟩ : S56) [.string (⟨#[97, 108, 112, 104, 97]⟩ : ByteArray), .string (⟨#[52, 49, 45, 53, 65, 32, 54, 49, 45, 55, 65]⟩ : ByteArray)] from (k56_mkM _ _ _ (⟨(⟨#[97, 108, 112, 104, 97]⟩ : ByteArray), (⟨#[52, 49, 45, 53, 65, 32, 54, 49, 45, 55, 65]⟩ : ByteArray)⟩ : S56) )) (Reps.c2 (show Kd.M k56 _ _ _ (⟨(⟨#[97, 115, 99, 105, 105]⟩ : ByteArray), (⟨#[48, 45, 55, 70]⟩ : ByteArray)⟩ : S56) [.string (⟨#[97, 115, 99, 105, 105]⟩ : ByteArray), .string (⟨#[48, 45, 55, 70]⟩ : ByteArray)] from (k56_mkM _ _ _ (⟨(⟨#[97, 115, 99, 105, 105]⟩ : ByteArray), (⟨#[48, 45, 55, 70]⟩ : ByteArray)⟩ : S56) )) (Reps.c2 (show Kd.M k56 _ _ _ (⟨(⟨#[98, 108, 97, 110, 107]⟩ : ByteArray), (⟨#[57, 32, 50, 48]⟩ : ByteArray)⟩ : S56) [.string (⟨#[98, 108, 97, 110, 107]⟩ : ByteArray), .string (⟨#[57, 32, 50, 48]⟩ : ByteArray)] from (k56_mkM _ _ _ (⟨(⟨#[98, 108, 97, 110, 107]⟩ : ByteArray), (⟨#[57, 32, 50, 48]⟩ : ByteArray)⟩ : S56) )) (Reps.c2 (show Kd.M k56 _ _ _ (⟨(⟨#[99, 110, 116, 114, 108]⟩ : ByteArray), (⟨#[48, 45, 49, 70, 32, 55, 70]⟩ : ByteArray)⟩ : S56) [.string (⟨#[99, 110, 116, 114, 108]⟩ : ByteArray), .string (⟨#[48, 45, 49, 70, 32, 55, 70]⟩ : ByteArray)] from (k56_mkM _ _ _ (⟨(⟨#[99, 110, 116, 114, 108]⟩ : ByteArray), (⟨#[48, 45, 49, 70, 32, 55, 70]⟩ : ByteArray)⟩ : S56) )) (Reps.c2 (show Kd.M k56 _ _ _ (⟨(⟨#[100, 105, 103, 105, 116]⟩ : ByteArray), (⟨#[51, 48, 45, 51, 57]⟩ : ByteArray)⟩ : S56) [.string (⟨#[100, 105, 103, 105, 116]⟩ : ByteArray), .string (⟨#[51, 48, 45, 51, 57]⟩ : ByteArray)] from (k56_mkM _ _ _ (⟨(⟨#[100, 105, 103, 105, 116]⟩ : ByteArray), (⟨#[51, 48, 45, 51, 57]⟩ : ByteArray)⟩ : S56) )) (Reps.c2 (show Kd.M k56 _ _ _ (⟨(⟨#[103, 114, 97, 112, 104]⟩ : ByteArray), (⟨#[50, 49, 45, 55, 69]⟩ : ByteArray)⟩ : S56) [.string (⟨#[103, 114, 97, 112, 104]⟩ : ByteArray), .string (⟨#[50, 49, 45, 55, 69]⟩ : ByteArray)] from (k56_mkM _ _ _ (⟨(⟨#[103, 114, 97, 112, 104]⟩ : ByteArray), (⟨#[50, 49, 45, 55, 69]⟩ : ByteArray)⟩ : S56) )) (Reps.c2 (show Kd.M k56 _ _ _ (⟨(⟨#[108, 111, 119, 101, 114]⟩ : ByteArray), (⟨#[54, 49, 45, 55, 65]⟩ : ByteArray)⟩ : S56) [.string (⟨#[108, 111, 119, 101, 114]⟩ : ByteArray), .string (⟨#[54, 49, 45, 55, 65]⟩ : ByteArray)] from (k56_mkM _ _ _ (⟨(⟨#[108, 111, 119, 101, 114]⟩ : ByteArray), (⟨#[54, 49, 45, 55, 65]⟩ : ByteArray)⟩ : S56) )) (Reps.c2 (show Kd.M k56 _ _ _ (⟨(⟨#[112, 114, 105, 110, 116]⟩ : ByteArray), (⟨#[50, 48, 45, 55, 69]⟩ : ByteArray)⟩ : S56) [.string (⟨#[112, 114, 105, 110, 116]⟩ : ByteArray), .string (⟨#[50, 48, 45, 55, 69]⟩ : ByteArray)] from (k56_mkM _ _ _ (⟨(⟨#[112, 114, 105, 110, 116]⟩ : ByteArray), (⟨#[50, 48, 45, 55, 69]⟩ : ByteArray)⟩ : S56) )) (Reps.c2 (show Kd.M k56 _ _ _ (⟨(⟨#[112, 117, 110, 99, 116]⟩ : ByteArray), (⟨#[50, 49, 45, 50, 70, 32, 51, 65, 45, 52, 48, 32, 53, 66, 45, 54, 48, 32, 55, 66, 45, 55, 69]⟩ : ByteArray)⟩ : S56) [.string (⟨#[112, 117, 110, 99, 116]⟩ : ByteArray), .string (⟨#[50, 49, 45, 50, 70, 32, 51, 65, 45, 52, 48, 32, 53, 66, 45, 54, 48, 32, 55, 66, 45, 55, 69]⟩ : ByteArray)] from (k56_mkM _ _ _ (⟨(⟨#[112, 117, 110, 99, 116]⟩ : ByteArray), (⟨#[50, 49, 45, 50, 70, 32, 51, 65, 45, 52, 48, 32, 53, 66, 45, 54, 48, 32, 55, 66, 45, 55, 69]⟩ : ByteArray)⟩ : S56) )) (Reps.c2 (show Kd.M k56 _ _ _ (⟨(⟨#[115, 112, 97, 99, 101]⟩ : ByteArray), (⟨#[57, 45, 68, 32, 50, 48]⟩ : ByteArray)⟩ : S56) [.string (⟨#[115, 112, 97, 99, 101]⟩ : ByteArray), .string (⟨#[57, 45, 68, 32, 50, 48]⟩ : ByteArray)] from (k56_mkM _ _ _ (⟨(⟨#[115, 112, 97, 99, 101]⟩ : ByteArray), (⟨#[57, 45, 68, 32, 50, 48]⟩ : ByteArray)⟩ : S56) )) (Reps.c2 (show Kd.M k56 _ _ _ (⟨(⟨#[117, 112, 112, 101, 114]⟩ : ByteArray), (⟨#[52, 49, 45, 53, 65]⟩ : ByteArray)⟩ : S56) [.string (⟨#[117, 112, 112, 101, 114]⟩ : ByteArray), .string (⟨#[52, 49, 45, 53, 65]⟩ : ByteArray)] from (k56_mkM _ _ _ (⟨(⟨#[117, 112, 112, 101, 114]⟩ : ByteArray), (⟨#[52, 49, 45, 53, 65]⟩ : ByteArray)⟩ : S56) )) (Reps.c2 (show Kd.M k56 _ _ _ (⟨(⟨#[119, 111, 114, 100]⟩ : ByteArray), (⟨#[51, 48, 45, 51, 57, 32, 52, 49, 45, 53, 65, 32, 53, 70, 32, 54, 49, 45, 55, 65]⟩ : ByteArray)⟩ : S56) [.string (⟨#[119, 111, 114, 100]⟩ : ByteArray), .string (⟨#[51, 48, 45, 51, 57, 32, 52, 49, 45, 53, 65, 32, 53, 70, 32, 54, 49, 45, 55, 65]⟩ : ByteArray)] from (k56_mkM _ _ _ (⟨(⟨#[119, 111, 114, 100]⟩ : ByteArray), (⟨#[51, 48, 45, 51, 57, 32, 52, 49, 45, 53, 65, 32, 53, 70, 32, 54, 49, 45, 55, 65]⟩ : ByteArray)⟩ : S56) )) (Reps.c2 (show Kd.M k56 _ _ _ (⟨(⟨#[120, 100, 105, 103, 105, 116]⟩ : ByteArray), (⟨#[51, 48, 45, 51, 57, 32, 52, 49, 45, 52, 54, 32, 54, 49, 45, 54, 54]⟩ : ByteArray)⟩ : S56) [.string (⟨#[120, 100, 105, 103, 105, 116]⟩ : ByteArray), .string (⟨#[51, 48, 45, 51, 57, 32, 52, 49, 45, 52, 54, 32, 54, 49, 45, 54, 54]⟩ : ByteArray)] from (k56_mkM _ _ _ (⟨(⟨#[120, 100, 105, 103, 105, 116]⟩ : ByteArray), (⟨#[51, 48, 45, 51, 57, 32, 52, 49, 45, 52, 54, 32, 54, 49, 45, 54, 54]⟩ : ByteArray)⟩ : S56) )) (Reps.none _ _)))))))))))))))); intro v258 w1 ho2 hb hg_ hnew_; clear hg_ hnew_; (first | rw [← Ny257.out] at ho2 | (simp only [Int.reduceToNat] at ho2; rw [← Ny257.out] at ho2)); have n0_ := Aside0.mk (Kd.R_lower ho2 (below_size (by repeat (first | (with_reducible first | exact HB.out | apply below_alloc | apply pw_below_drewN | apply below_drew1) | exact HB.out)))); have n1_ := Aside0.mk (below_step (by repeat (first | (with_reducible first | exact HB.out | apply below_alloc | apply pw_below_drewN | apply below_drew1) | exact HB.out)) hb); clear HB; have HO259 := n0_; have HB := n1_; clear n0_ n1_; clear hb ho2))
  go_ret
  exact ⟨_, by first | rfl | (simp [errW_none, errW_some] <;> rfl) | (simp [*, errW_none, errW_some] <;> rfl), by (with_reducible repeat (first | apply Kd.R_alloc | apply Kd.R_drewN | apply Kd.R_drew)); exact HO259.out, by repeat (first | (with_reducible first | exact HB.out | apply below_alloc | apply pw_below_drewN | apply below_drew1) | exact HB.out)⟩

/-! ### class_Colon: function 9 -/
def class_Colon.f (k : Nat) (a0 : ByteArray) : Option ((List (S42)) × Int) := (class_colons.f).bind fun t260 => ((class_turned.f k t260 a0).bind fun bt263 => (some (bt263.1, bt263.2)))
theorem class_Colon.mono : ∀ a0 k, LeO (class_Colon.f k a0) (class_Colon.f (k + 1) a0) := by
  intro a0 k
  unfold class_Colon.f
  repeat' first
      | (with_reducible exact class_turned.mono _ _ _)
      | (with_reducible exact LeO.refl _)
      | (with_reducible exact LeO.none _)
      | (with_reducible refine LeO.ite ?_ ?_)
      | (with_reducible refine LeO.bind ?_ (fun _ => ?_))
      | exact class_turned.mono _ _ _
      | exact LeO.none _
      | refine LeO.ite ?_ ?_
      | refine LeO.bind ?_ (fun _ => ?_)
set_option maxHeartbeats 8000000 in
set_option maxRecDepth 100000 in
theorem class_Colon.calls (k : Nat) (a0 : ByteArray) (r1 : List (S42)) (r2 : Int) (w : World) (h : class_Colon.f k a0 = some (r1, r2)) :
    Calls Tryd.prog 9 #[.string a0] w fun e w' => ∃ v0_ : Value, e = .returned (.tuple #[v0_, .int .i64 r2]) ∧ Kd.R k42 42 w' w.heap.size (fun _ => True) v0_ r1 ∧ Below w.heap.size w w' := by
  have HB := Aside0.mk (Below.refl w.heap.size w)
  have H : ((class_colons.f).bind fun t260 => ((class_turned.f k t260 a0).bind fun bt263 => (some (bt263.1, bt263.2)))) = some (r1, r2) := h
  clear h
  replace H := Option.bind_eq_some_iff.mp H
  obtain ⟨t260, A20, H⟩ := H
  replace H : ((class_turned.f k t260 a0).bind fun bt263 => (some (bt263.1, bt263.2))) = some (r1, r2) := H
  have A2 := Aside0.mk A20
  clear A20
  replace H := Option.bind_eq_some_iff.mp H
  obtain ⟨⟨t263, t264⟩, A30, H⟩ := H
  replace H : (some (t263, t264)) = some (r1, r2) := H
  have A3 := Aside0.mk A30
  clear A30
  simp only [Option.some.injEq, Prod.mk.injEq] at H
  obtain ⟨rfl, rfl⟩ := H
  go_enter Tryd.func9, Tryd.ntmps9
  go_wp2_with (first | ((with_reducible refine gate_callee (f := 31) rfl ?_); refine goesL_ (some 4) rfl rfl Tryd.func31 (by kernel_rfl) rfl #[] rfl (by (try simp only [List.map_toArray, List.map_cons, List.map_nil]); first | done | rfl | (simp only [List.length_drop, List.length_take]; rfl)) ?_; (with_reducible refine (class_colons.calls  t260 _ A2.out).mono ?_); rintro e w4 ⟨v261, rfl, ho0, hb⟩; refine ⟨_, rfl, ?_⟩; have n0_ := Aside0.mk (Kd.R_lower ho0 (below_size (by repeat (first | (with_reducible first | exact HB.out | apply below_alloc | apply pw_below_drewN | apply below_drew1) | exact HB.out)))); have n1_ := Aside0.mk (below_step (by repeat (first | (with_reducible first | exact HB.out | apply below_alloc | apply pw_below_drewN | apply below_drew1) | exact HB.out)) hb); clear HB; have HO262 := n0_; have HB := n1_; clear n0_ n1_; (try clear hb); (try clear hb2); (try clear hk); (try clear hi); (try clear ho0); obtain ⟨Ao5, co5, eo5⟩ := Kd.R_slice HO262.out; subst eo5) | ((with_reducible refine gate_callee (f := 27) rfl ?_); refine goesL_ (some 6) rfl rfl Tryd.func27 (by kernel_rfl) rfl #[.slice Ao5 t260.length co5, .string a0] rfl (by (try simp only [List.map_toArray, List.map_cons, List.map_nil]); first | done | rfl | (simp only [List.length_drop, List.length_take]; rfl)) ?_; (with_reducible refine (class_turned.calls k _ _ t260 a0 t263 t264 _ ?side1 ?side2 A3.out).mono ?_); (case side1 => repeat (first | exact (Kd.R_reads' HO262.out).2.2 | (with_reducible refine Kd.C_alloc ?_ _) | (with_reducible refine Kd.C_drewN ?_ _) | (with_reducible refine Kd.C_drew ?_))); (case side2 => exact (Kd.R_reads' HO262.out).2.1); rintro e w6 ⟨v265, rfl, ho0, hb⟩; refine ⟨_, rfl, ?_⟩; have n0_ := Aside0.mk (Kd.R_below (by (with_reducible repeat (first | apply Kd.R_alloc | apply Kd.R_drewN | apply Kd.R_drew)); exact HO262.out) hb); have n1_ := Aside0.mk (Kd.R_lower ho0 (below_size (by repeat (first | (with_reducible first | exact HB.out | apply below_alloc | apply pw_below_drewN | apply below_drew1) | exact HB.out)))); have n2_ := Aside0.mk (below_step (by repeat (first | (with_reducible first | exact HB.out | apply below_alloc | apply pw_below_drewN | apply below_drew1) | exact HB.out)) hb); clear HO262; clear HB; have HO262 := n0_; have HO266 := n1_; have HB := n2_; clear n0_ n1_ n2_; (try clear hb); (try clear hb2); (try clear hk); (try clear hi); (try clear ho0)))
  go_ret2
  exact ⟨_, by first | rfl | (simp [errW_none, errW_some] <;> rfl) | (simp [*, errW_none, errW_some] <;> rfl), by (with_reducible repeat (first | apply Kd.R_alloc | apply Kd.R_drewN | apply Kd.R_drew)); exact HO266.out, by repeat (first | (with_reducible first | exact HB.out | apply below_alloc | apply pw_below_drewN | apply below_drew1) | exact HB.out)⟩

/-! ### burinref04_bare: function 32 -/
def burinref04_bare.f (a0 : ByteArray) : Option (ByteArray × Bool) := if (a0.size : Int) > 0 then (if 0 < (a0.size : Int) then (if (bt a0 0) = 94 then (if 1 ≤ (a0.size : Int) then (some (a0.extract 1 a0.size, true)) else (none)) else (some (a0, false))) else (none)) else (some (a0, false))
set_option maxHeartbeats 8000000 in
set_option maxRecDepth 100000 in
theorem burinref04_bare.calls (a0 : ByteArray) (r1 : ByteArray) (r2 : Bool) (w : World) (h : burinref04_bare.f a0 = some (r1, r2)) :
    Calls Tryd.prog 32 #[.string a0] w fun e w' => e = .returned (.tuple #[.string r1, .bool r2]) ∧ Drawn0 w w' := by
  have H : (if (a0.size : Int) > 0 then (if 0 < (a0.size : Int) then (if (bt a0 0) = 94 then (if 1 ≤ (a0.size : Int) then (some (a0.extract 1 a0.size, true)) else (none)) else (some (a0, false))) else (none)) else (some (a0, false))) = some (r1, r2) := h
  clear h
  by_cases c2 : (a0.size : Int) > 0
  · rw [if_pos c2] at H
    have c2b0 : decide (0 < (a0.size : Int)) = true := decide_eq_true c2
    have c2b1 : decide (0 < a0.size) = true := decide_eq_true (by omega)
    clear c2
    by_cases c3 : 0 < (a0.size : Int)
    · rw [if_pos c3] at H
      have c3b0 : decide (0 < (a0.size : Int)) = true := decide_eq_true c3
      have c3b1 : decide (0 < a0.size) = true := decide_eq_true (by omega)
      clear c3
      by_cases c5 : (bt a0 0) = 94
      · rw [if_pos c5] at H
        have c5b0 : ((bt a0 0) == 94) = true := beq_iff_eq.mpr c5
        have c5b1 : ((bt a0 0) != 94) = false := bne_eq_false_iff_eq.mpr c5
        clear c5
        by_cases c6 : 1 ≤ (a0.size : Int)
        · rw [if_pos c6] at H
          have c6b0 := eq_true c6
          have c6b1 : decide (1 ≤ (a0.size : Int)) = true := decide_eq_true c6
          clear c6
          simp only [Option.some.injEq, Prod.mk.injEq] at H
          obtain ⟨rfl, rfl⟩ := H
          have p4 : 0 ≤ (0 : Int) := (by omega)
          have q4 : 0 < a0.size := (by have : (0 : Int) < (a0.size : Int) := of_decide_eq_true (by first | (with_reducible assumption) | assumption); omega)
          have hx4 : ∀ h : 0 < a0.size, ((a0[0]'h).toNat : Int) = bt a0 0 := bt_at a0 0
          clear p4
          have qi4 : (0 < (a0.size : Int)) = True := eq_true (of_decide_eq_true (by first | (with_reducible assumption) | assumption))
          replace q4 := eq_true q4
          go_enter Tryd.func32, Tryd.ntmps32
          go_wp2
          go_ret2
          exact ⟨by first | rfl | (simp; done) | (simp [*]; done), by repeat (first | exact Drawn0.refl _ | apply Drawn0.step)⟩
        · rw [if_neg c6] at H
          exact absurd H (by simp)
      · rw [if_neg c5] at H
        have c5b0 : ((bt a0 0) == 94) = false := beq_eq_false_iff_ne.mpr c5
        have c5b1 : ((bt a0 0) != 94) = true := bne_iff_ne.mpr c5
        simp only [Option.some.injEq, Prod.mk.injEq] at H
        obtain ⟨rfl, rfl⟩ := H
        have p4 : 0 ≤ (0 : Int) := (by omega)
        have q4 : 0 < a0.size := (by have : (0 : Int) < (a0.size : Int) := of_decide_eq_true (by first | (with_reducible assumption) | assumption); omega)
        have hx4 : ∀ h : 0 < a0.size, ((a0[0]'h).toNat : Int) = bt a0 0 := bt_at a0 0
        clear p4
        have qi4 : (0 < (a0.size : Int)) = True := eq_true (of_decide_eq_true (by first | (with_reducible assumption) | assumption))
        replace q4 := eq_true q4
        go_enter Tryd.func32, Tryd.ntmps32
        go_wp2
        go_ret2
        exact ⟨by first | rfl | (simp; done) | (simp [*]; done), by repeat (first | exact Drawn0.refl _ | apply Drawn0.step)⟩
    · rw [if_neg c3] at H
      exact absurd H (by simp)
  · rw [if_neg c2] at H
    have c2b0 : decide (0 < (a0.size : Int)) = false := decide_eq_false c2
    have c2b1 : decide (0 < a0.size) = false := decide_eq_false (by omega)
    clear c2
    simp only [Option.some.injEq, Prod.mk.injEq] at H
    obtain ⟨rfl, rfl⟩ := H
    go_enter Tryd.func32, Tryd.ntmps32
    go_wp2
    go_ret2
    exact ⟨by first | rfl | (simp; done) | (simp [*]; done), by repeat (first | exact Drawn0.refl _ | apply Drawn0.step)⟩

end Go.Proofs.YtnpkfncccddlmaaDoor.HClassTells
