-- Made by wip/hyb (a program of this session over the kit's print); its parts marked 'own text' are typed by hand.
import Derived.Test.YtheheijhijeljaaGreatDoorHBracketReadsx3
import Derived.Test.YtheheijhijeljaaGreatDoorHBracketReadsx13
namespace Go.Proofs.YtheheijhijeljaaGreatDoor.HBracketReads
open Go.RowKit Go.Proofs.YtheheijhijeljaaGreatDoorW.PrintWords Go.Proofs.YtheheijhijeljaaGreatDoorW.PrintLast Go.Proofs.YtheheijhijeljaaGreatDoorW.PrintMore
attribute [local go_sem] max2_int min2_int max_two min_two max_three min_three max_four min_four   -- for this text's walks alone
set_option linter.unusedVariables false
set_option linter.unusedSimpArgs false
def burinref04_list.l0 : Nat → List Int → List (S36) → Int → Option ((List (S36)))
 | 0, _, _, _ => none
 | k + 1, x0, x3, x4 => if (wrap64 (x4 + 1)) < (x0.length : Int) then (if 0 ≤ x4 then (if x4 < (x0.length : Int) then (if 0 ≤ (wrap64 (x4 + 1)) then (if x3.length < 8796093022208 then (burinref04_list.l0 k x0 (x3 ++ [(⟨rd x0 x4, rd x0 (wrap64 (x4 + 1))⟩ : S36)]) (wrap64 (x4 + 2))) else (none)) else (none)) else (none)) else (none)) else ((burinref02_Norm.f k x3).bind fun t282 => (some t282))
def burinref04_list.f (k : Nat) (l0 : List Int) : Option ((List (S36))) := burinref04_list.l0 k l0 ([] : List (S36)) 0
theorem burinref04_list.mono_l : ∀ k, (∀ y0 y1 y2, LeO (burinref04_list.l0 k y0 y1 y2) (burinref04_list.l0 (k + 1) y0 y1 y2))
 | 0 => fun _ _ _ r h => by simp [burinref04_list.l0] at h
 | k + 1 => by
  have ih0 := burinref04_list.mono_l k
  intro y0 y1 y2
  unfold burinref04_list.l0
  repeat' first
  | (with_reducible exact ih0 _ _ _)
  | (with_reducible exact burinref02_Norm.mono _ _)
  | (with_reducible exact LeO.refl _)
  | (with_reducible exact LeO.none _)
  | (with_reducible refine LeO.ite ?_ ?_)
  | (with_reducible refine LeO.bind ?_ (fun _ => ?_))
  | exact ih0 _ _ _
  | exact burinref02_Norm.mono _ _
  | exact LeO.none _
  | refine LeO.ite ?_ ?_
  | refine LeO.bind ?_ (fun _ => ?_)
theorem burinref04_list.mono : ∀ a0 k, LeO (burinref04_list.f k a0) (burinref04_list.f (k + 1) a0) := by
 intro a0 k
 have ih0 := burinref04_list.mono_l k
 unfold burinref04_list.f
 repeat' first
   | (with_reducible exact ih0 _ _ _)
   | (with_reducible exact burinref02_Norm.mono _ _)
   | (with_reducible exact LeO.refl _)
   | (with_reducible exact LeO.none _)
   | (with_reducible refine LeO.ite ?_ ?_)
   | (with_reducible refine LeO.bind ?_ (fun _ => ?_))
   | exact ih0 _ _ _
   | exact burinref02_Norm.mono _ _
   | exact LeO.none _
   | refine LeO.ite ?_ ?_
   | refine LeO.bind ?_ (fun _ => ?_)
def burinref04_list.T5 : Bool × List (List Nat × List Nat) := (true, [([], []), ([], []), ([], []), ([1, 2], [1, 2]), ([3], [3]), ([], []), ([], []), ([6], [6]), ([5, 7], [5, 7]), ([8], [8]), ([4, 9], [4, 9]), ([10], [10]), ([0, 11], [0, 11]), ([12, 12, 0, 1, 2, 3, 4, 5, 6, 7, 8, 9, 10, 11, 12], [0, 12])])
def burinref04_list.B5 : List Nat := [0, 0, 0, 6, 14, 0, 0, 64, 224, 480, 1022, 2046, 4095, 8191]
theorem burinref04_list.tab5 : rtab .any (opsOf Tryz.f60 5) = burinref04_list.T5 := by kernel_rfl
theorem burinref04_list.bits5 : waitsOk burinref04_list.T5.2 burinref04_list.B5 = true := by kernel_rfl
set_option maxHeartbeats 8000000 in
set_option maxRecDepth 100000 in
theorem burinref04_list.calls (k : Nat) (A0 : Option Addr) (c0 : Nat) (l0 : List Int) (r : List (S36)) (w : World) (hr0 : Kd.C (Kd.int .i64) w A0 l0.length l0) (hc0 : l0.length ≤ c0) (h : burinref04_list.f k l0 = some r) :
  Calls Tryz.prog 60 #[.slice A0 l0.length c0] w fun e w' => ∃ v0_ : Value, e = .returned (v0_) ∧ Kd.R k36 36 w' w.heap.size (fun _ => True) v0_ r ∧ Below w.heap.size w w' := by
 have hu36 := Tryz.underlying36
 have HR0 := Aside0.mk hr0
 have HC0 := Aside0.mk hc0
 clear hr0 hc0
 have HB := Aside0.mk (Below.refl w.heap.size w)
 have H : (burinref04_list.l0 k l0 ([] : List (S36)) 0) = some r := h
 clear h
 have H' := Aside0.mk H
 clear H
 go_enter Tryz.func60, Tryz.ntmps60
 go_wp2
 go_loopg [3, 4] k (fun kq v3 v4 w' => ∃ (x3_1 : List (S36)) (x4_1 : Int), v4 = .int .i64 x4_1 ∧ Aside0 (burinref04_list.l0 kq l0 x3_1 x4_1 = some r) ∧ Aside0 (kq ≤ k) ∧ Aside0 (Kd.R k36 36 w' w.heap.size (fun _ => True) v3 x3_1) ∧ Aside0 (Below w.heap.size w w'))
 case atStart => exact ⟨(([] : List (S36))), (0), ez, H', ⟨Nat.le_refl _⟩, ⟨by first | exact Kd.R_nil _ _ _ _ _ | exact Kd.N_nil _ _ _ _ _ | exact Kd.V_nil _ _ _ _ _ | exact Kd.Q_nil _ _ _ _ _ | exact Kd.S_nil _ _ _ _ _⟩, ⟨bz⟩⟩
 clear H'
 obtain ⟨x3_1, x4_1, rfl, HA, HK1, HO_3, HB⟩ := hrel
 cases gk with
 | zero => exact absurd HA.out (by simp [burinref04_list.l0])
 | succ k1 =>
  have H := HA.out
  clear HA
  simp only [burinref04_list.l0] at H
  by_cases c2 : (wrap64 (x4_1 + 1)) < (l0.length : Int)
  ·rw [if_pos c2] at H
   have c2b0 := decide_eq_true c2
   clear c2
   by_cases c3 : 0 ≤ x4_1
   rotate_left
   ·exact nomatch (if_neg c3).symm.trans H
   rw [if_pos c3] at H
   have c3b0 := decide_eq_true c3
   clear c3
   by_cases c4 : x4_1 < (l0.length : Int)
   rotate_left
   ·exact nomatch (if_neg c4).symm.trans H
   rw [if_pos c4] at H
   have c4b0 := decide_eq_true c4
   clear c4
   obtain ⟨ji5, hji5⟩ : ∃ j_ : Int, (wrap64 (x4_1 + 1)) = j_ := ⟨_, rfl⟩
   replace H : (if 0 ≤ (ji5) then (if x3_1.length < 8796093022208 then (burinref04_list.l0 k1 l0 (x3_1 ++ [(⟨rd l0 x4_1, rd l0 (ji5)⟩ : S36)]) (wrap64 (x4_1 + 2))) else (none)) else (none)) = some r := by first | (rw [hji5] at H; exact H) | (simp only [hji5] at H ⊢; exact H)
   (try rw [hji5] at c2b0)
   have hji5w : (IntKind.i64.wrap (x4_1 + 1)) = ji5 := (i64_w _).trans hji5
   by_cases c6 : 0 ≤ (ji5)
   rotate_left
   ·exact nomatch (if_neg c6).symm.trans H
   rw [if_pos c6] at H
   have c6b0 := decide_eq_true c6
   clear c6
   by_cases c7 : x3_1.length < 8796093022208
   rotate_left
   ·exact nomatch (if_neg c7).symm.trans H
   rw [if_pos c7] at H
   have LMc7 := Aside0.mk c7
   clear c7
   obtain ⟨y279, hy279⟩ : ∃ y_ : List (S36), y_ = (x3_1 ++ [(⟨rd l0 x4_1, rd l0 (ji5)⟩ : S36)]) := ⟨_, rfl⟩
   rw [← hy279] at H
   try rw [Option.bind_some] at H
   have Ny279 := Aside0.mk hy279
   clear hy279
   have H' := Aside0.mk H
   clear H
   try go_wp2
   have n0_ := Aside0.mk (Kd.R_drew HO_3.out)
   have n1_ := Aside0.mk (below_drew1 HB.out)
   clear HO_3
   clear HB
   have HO_3 := n0_
   have HB := n1_
   clear n0_ n1_
   have p277 : 0 ≤ (x4_1 : Int) := oz
   have q277 : x4_1 < (l0.length : Int) := oz
   obtain ⟨ad277, e277, hx277_0⟩ := Kd.at_int HR0.out x4_1 p277 q277
   have hw277_0 := hx277_0
   cases e277
   replace hx277_0 := (HB.out.cell (World.block_lt_of_cell? w _ hx277_0)).trans hx277_0
   replace p277 := eq_true p277
   replace q277 := eq_true q277
   have p278 : 0 ≤ ((ji5) : Int) := oz
   have q278 : (ji5) < (l0.length : Int) := oz
   obtain ⟨ad278, e278, hx278_0⟩ := Kd.at_int HR0.out (ji5) p278 q278
   have hw278_0 := hx278_0
   obtain rfl : ad277 = ad278 := (by injection e278)
   replace hx278_0 := (HB.out.cell (World.block_lt_of_cell? w _ hx278_0)).trans hx278_0
   replace p278 := eq_true p278
   replace q278 := eq_true q278
   refine start_ (n := 14) (S := fun w' => w'.cell? (ad277.add (x4_1).toNat) = some (.int .i64 (rd l0 x4_1)) ∧ w'.cell? (ad277.add ((ji5)).toNat) = some (.int .i64 (rd l0 (ji5)))) (ds := []) #[false, false, false, false, false, false, false, false, false, false, false, false, false, false] kz rfl rfl ⟨((HB.out.cell (World.block_lt_of_cell? w _ hw277_0)).trans hw277_0), ((HB.out.cell (World.block_lt_of_cell? w _ hw278_0)).trans hw278_0)⟩ (fun hHeld => ?_); refine with_tabW burinref04_list.tab5 burinref04_list.bits5 (fun HT_ HW_ => ?_)
   generalize wr.drew = w8 at HO_3 HB hx277_0 hx278_0 hHeld ⊢
   refine pure_ (i := 0) (N := some 12) (v := ?_) (a' := ?_) #[true, false, false, false, false, false, false, false, false, false, false, false, false, false] rfl rfl (any_of HT_.out kz) (fun _ _ _ h => h) (Or.inl ⟨by rfl, ?_⟩) ?_ ?_
   rotate_left
   ·intro w'
    go_simp
    with_reducible rfl
   rotate_left
   ·simp only [Act.put, List.setIfInBounds_toArray, List.set_cons_zero, List.set_cons_succ, i64_w, i32_w]
    rfl
   refine pure_ (i := 1) (N := some 13) (v := ?_) (a' := ?_) #[true, true, false, false, false, false, false, false, false, false, false, false, false, false] rfl rfl (any_of HT_.out kz) (fun _ _ _ h => h) (Or.inl ⟨by rfl, ?_⟩) ?_ ?_
   rotate_left
   ·intro w'
    go_simp
    with_reducible rfl
   rotate_left
   ·simp only [Act.put, List.setIfInBounds_toArray, List.set_cons_zero, List.set_cons_succ, i64_w, i32_w]
    rfl
   refine pure_ (i := 2) (N := some 14) (v := ?_) (a' := ?_) #[true, true, true, false, false, false, false, false, false, false, false, false, false, false] rfl rfl (any_of HT_.out kz) (fun _ _ _ h => h) (Or.inl ⟨by rfl, ?_⟩) ?_ ?_
   rotate_left
   ·intro w'
    go_simp
    with_reducible rfl
   rotate_left
   ·simp only [Act.put, List.setIfInBounds_toArray, List.set_cons_zero, List.set_cons_succ, i64_w, i32_w]
    rfl
   refine pure_ (i := 3) (N := some 15) (v := ?_) (a' := ?_) #[true, true, true, true, false, false, false, false, false, false, false, false, false, false] rfl rfl (any_of HT_.out kz) (fun _ _ _ h => h) (Or.inl ⟨by rfl, ?_⟩) ?_ ?_
   rotate_left
   ·intro w'
    go_simp
    with_reducible rfl
   rotate_left
   ·simp only [Act.put, List.setIfInBounds_toArray, List.set_cons_zero, List.set_cons_succ, i64_w, i32_w]
    rfl
   refine pure_ (i := 5) (N := some 17) (v := ?_) (a' := ?_) #[true, true, true, true, false, true, false, false, false, false, false, false, false, false] rfl rfl (any_of HT_.out kz) (fun _ _ _ h => h) (Or.inl ⟨by rfl, ?_⟩) ?_ ?_
   rotate_left
   ·intro w'
    go_simp
    with_reducible rfl
   rotate_left
   ·simp only [Act.put, List.setIfInBounds_toArray, List.set_cons_zero, List.set_cons_succ, i64_w, i32_w]
    rfl
   refine pure_ (i := 6) (N := some 18) (v := ?_) (a' := ?_) #[true, true, true, true, false, true, true, false, false, false, false, false, false, false] rfl rfl (any_of HT_.out kz) (fun _ _ _ h => h) (Or.inl ⟨by rfl, ?_⟩) ?_ ?_
   rotate_left
   ·intro w'
    go_simp
    with_reducible rfl
   rotate_left
   ·simp only [Act.put, List.setIfInBounds_toArray, List.set_cons_zero, List.set_cons_succ, i64_w, i32_w]
    rfl
   refine pure_ (i := 7) (N := some 19) (v := ?_) (a' := ?_) #[true, true, true, true, false, true, true, true, false, false, false, false, false, false] rfl rfl (any_of HT_.out kz) (fun _ _ _ h => h) (Or.inl ⟨by rfl, ?_⟩) ?_ ?_
   rotate_left
   ·intro w'
    go_simp
    with_reducible rfl
   rotate_left
   ·simp only [Act.put, List.setIfInBounds_toArray, List.set_cons_zero, List.set_cons_succ, i64_w, i32_w]
    rfl
   refine pure_ (i := 8) (N := some 20) (v := ?_) (a' := ?_) #[true, true, true, true, false, true, true, true, true, false, false, false, false, false] rfl rfl (any_of HT_.out kz) (fun _ _ _ h => h) (Or.inl ⟨by rfl, ?_⟩) ?_ ?_
   rotate_left
   ·intro w'
    go_simp
    with_reducible rfl
   rotate_left
   ·simp only [Act.put, List.setIfInBounds_toArray, List.set_cons_zero, List.set_cons_succ, i64_w, i32_w]
    rfl
   refine take_ (i := 4) (N := some 16) (v := ?_) (a' := ?_) #[true, true, true, true, true, true, true, true, true, false, false, false, false, false] rfl rfl (take_ofW HT_.out HW_.out kz) (fun _ _ _ h => h) (Or.inl ⟨by rfl, ?_⟩) hHeld ?_ ?_
   rotate_left
   ·rintro w' ⟨s0, s1⟩
    go_simp
    with_reducible rfl
   rotate_left
   ·simp only [Act.put, List.setIfInBounds_toArray, List.set_cons_zero, List.set_cons_succ, i64_w, i32_w]
    rfl
   refine take_ (i := 9) (N := some 21) (v := ?_) (a' := ?_) #[true, true, true, true, true, true, true, true, true, true, false, false, false, false] rfl rfl (take_ofW HT_.out HW_.out kz) (fun _ _ _ h => h) (Or.inl ⟨by rfl, ?_⟩) hHeld ?_ ?_
   rotate_left
   ·rintro w' ⟨s0, s1⟩
    go_simp
    with_reducible rfl
   rotate_left
   ·simp only [Act.put, List.setIfInBounds_toArray, List.set_cons_zero, List.set_cons_succ, i64_w, i32_w]
    rfl
   refine pure_ (i := 10) (N := some 22) (v := ?_) (a' := ?_) #[true, true, true, true, true, true, true, true, true, true, true, false, false, false] rfl rfl (any_of HT_.out kz) (fun _ _ _ h => h) (Or.inl ⟨by rfl, ?_⟩) ?_ ?_
   rotate_left
   ·intro w'
    go_simp
    with_reducible rfl
   rotate_left
   ·simp only [Act.put, List.setIfInBounds_toArray, List.set_cons_zero, List.set_cons_succ, i64_w, i32_w]
    rfl
   refine one_ (i := 11) (N := some 23) #[true, true, true, true, true, true, true, true, true, true, true, true, false, false] rfl rfl (one_of HT_.out kz) (by decide) (fun K hK => ?_)
   refine value_ (w1 := ?_) (v := ?_) (by rfl) rfl ?_ ?_
   rotate_left 2
   ·go_simp
    constructor
    ·rfl
    rfl
   refine hK.out _ _ ⟨(World.cell?_alloc_lt _ _ _ (World.block_lt_of_cell? _ _ (((HB.out.cell (World.block_lt_of_cell? w _ hw277_0)).trans hw277_0)))).trans (((HB.out.cell (World.block_lt_of_cell? w _ hw277_0)).trans hw277_0)), (World.cell?_alloc_lt _ _ _ (World.block_lt_of_cell? _ _ (((HB.out.cell (World.block_lt_of_cell? w _ hw278_0)).trans hw278_0)))).trans (((HB.out.cell (World.block_lt_of_cell? w _ hw278_0)).trans hw278_0))⟩ (fun hHeld => ?_)
   clear hK K
   refine norm_ (a' := ?_) ?_ ?_
   rotate_left
   ·show Act.put _ (some 23) _ = _
    simp only [Act.put, List.setIfInBounds_toArray, List.set_cons_zero, List.set_cons_succ, i64_w, i32_w]
    rfl
   refine one_ (i := 12) (N := some 24) #[true, true, true, true, true, true, true, true, true, true, true, true, true, false] rfl rfl (one_of HT_.out kz) (by decide) (fun K hK => ?_)
   refine Kd.R_append_step k36 (w0 := w) w.heap.size (by rfl) (.tmp 12) (.tmp 23) 26 36 (.agg #[(.int .i64 0), (.int .i64 0)]) 16 rfl Tryz.underlying26 info36 rfl (by decide) (by omega) u3 x3_1 (⟨rd l0 x4_1, rd l0 (ji5)⟩ : S36) [.int .i64 (rd l0 x4_1), .int .i64 (rd l0 (ji5))] (fun _ => True) (fun _ => False) rfl rfl ?aP (fun _ hk => hk.elim) ?aF ?aO ?aB ?aS ?aL ?_
   (case aP => exact k36_mkM _ _ _ (⟨rd l0 x4_1, rd l0 (ji5)⟩ : S36))
   (case aB => exact bz)
   (case aF => exact (fun _ _ => trivial))
   (case aO => exact (rz HO_3.out))
   (case aS => exact (below_size bz))
   (case aL => have := LMc7.out; omega)
   intro v280 w9 ho hb hg hat
   rw [← Ny279.out] at ho
   have n0_ := Aside0.mk (hb)
   have n1_ := Aside0.mk (ho)
   clear HB
   clear HO_3
   have HB := n0_
   have HO281 := n1_
   clear n0_ n1_
   clear ho hb hg hat
   refine hK.out _ _ ⟨((HB.out.cell (World.block_lt_of_cell? w _ hw277_0)).trans hw277_0), ((HB.out.cell (World.block_lt_of_cell? w _ hw278_0)).trans hw278_0)⟩ (fun hHeld => ?_)
   clear hK K
   refine norm_ (a' := ?_) ?_ ?_
   rotate_left
   ·show Act.put _ (some 24) _ = _
    simp only [Act.put, List.setIfInBounds_toArray, List.set_cons_zero, List.set_cons_succ, i64_w, i32_w]
    rfl
   refine pure_ (i := 13) (N := some 3) (v := ?_) (a' := ?_) #[true, true, true, true, true, true, true, true, true, true, true, true, true, true] rfl rfl (any_of HT_.out kz) (fun _ _ _ h => h) (Or.inl ⟨by rfl, ?_⟩) ?_ ?_
   rotate_left
   ·intro w'
    go_simp
    with_reducible rfl
   rotate_left
   ·simp only [Act.put, List.setIfInBounds_toArray, List.set_cons_zero, List.set_cons_succ, i64_w, i32_w]
    rfl
   refine done_ (done_of HT_.out kz) ?_
   try go_wp2
   go_roundg k1
   case measure => have := HK1.out; omega
   case rel => exact ⟨(y279), (wrap64 (x4_1 + 2)), ez, H', ⟨by have := HK1.out; omega⟩, ⟨rz HO281.out⟩, ⟨bz⟩⟩
  rw [if_neg c2] at H
  have c2b0 := decide_eq_false c2
  clear c2
  replace H := Option.bind_eq_some_iff.mp H
  obtain ⟨t282, A100, H⟩ := H
  try dsimp only at H
  have A10 := Aside0.mk A100
  clear A100
  obtain rfl := Option.some.inj H
  obtain ⟨Ao11, co11, eo11⟩ := Kd.R_slice HO_3.out
  subst eo11
  go_wp2_with (first | ((with_reducible refine gate_callee (f := 38) rfl ?_); refine goesL_ (some 26) rfl rfl Tryz.func38 kz rfl #[.slice Ao11 x3_1.length co11] rfl mz ?_; (with_reducible refine (burinref02_Norm.calls k1 _ _ x3_1 t282 _ ?side1 ?side2 A10.out).mono ?_); (case side1 => exact cz (Kd.R_reads' HO_3.out).2.2); (case side2 => exact (Kd.R_reads' HO_3.out).2.1); rintro e w12 ⟨v283, rfl, ho0, hb⟩; refine ⟨_, rfl, ?_⟩; have HO284 := Aside0.mk (Kd.R_lower (Kd.R_new' ho0 (Kd.R_lt (rz HO_3.out))) (below_size bz)); replace HO_3 := Aside0.mk (Kd.R_elder' (rz HO_3.out) (Kd.R_base ho0) hb); replace HB := hz hb; (try clear hb); (try clear ho0)))
  go_ret
  exact ⟨_, fz, rz (R_all HO284.out), bz⟩
def burinref04_word.f  : Option (List Int) := some (([48, 57, 65, 90, 95, 95, 97, 122] : List Int))
set_option maxHeartbeats 8000000 in
set_option maxRecDepth 100000 in
theorem burinref04_word.calls  (r : List Int) (w : World) (h : burinref04_word.f  = some r) :
  Calls Tryz.prog 61 #[] w fun e w' => ∃ v0_ : Value, e = .returned (v0_) ∧ Kd.R (Kd.int .i64) 3 w' w.heap.size (fun _ => True) v0_ r ∧ Below w.heap.size w w' := by
 have HB := Aside0.mk (Below.refl w.heap.size w)
 have H : (some (([48, 57, 65, 90, 95, 95, 97, 122] : List Int))) = some r := h
 clear h
 obtain ⟨y285, hy285⟩ : ∃ y_ : List Int, y_ = (([48, 57, 65, 90, 95, 95, 97, 122] : List Int)) := ⟨_, rfl⟩
 rw [← hy285] at H
 try rw [Option.bind_some] at H
 have Ny285 := Aside0.mk hy285
 clear hy285
 obtain rfl := Option.some.inj H
 go_enter Tryz.func61, Tryz.ntmps61
 go_wp2_with (first | ((with_reducible refine gate_dst (N := 1) rfl ?_); refine Kd.R_lit (Kd.int .i64) _ 3 ?hg (N := 1) ?hd (xs := ([48, 57, 65, 90, 95, 95, 97, 122] : List Int)) (inner := [.int .i64 48, .int .i64 57, .int .i64 65, .int .i64 90, .int .i64 95, .int .i64 95, .int .i64 97, .int .i64 122]) (ok := fun _ => True) (okp := fun _ => True) ?hr ?hp (fun _ hk => hk) trivial (Below.refl _ _) (Nat.le_refl _) (by simp) ?_; (case hd => rfl); (case hg => rfl); (case hr => first | (go_simp; done) | (go_simp; rfl)); (case hp => exact (Reps.one rfl (Reps.one rfl (Reps.one rfl (Reps.one rfl (Reps.one rfl (Reps.one rfl (Reps.one rfl (Reps.one rfl (Reps.none _ _)))))))))); intro v286 w1 ho2 hb hg_ hnew_; clear hg_ hnew_; (first | rw [← Ny285.out] at ho2 | (simp only [Int.reduceToNat] at ho2; rw [← Ny285.out] at ho2)); have HO287 := Aside0.mk (Kd.R_lower ho2 (below_size bz)); replace HB := hz hb; clear hb ho2))
 go_ret
 exact ⟨_, fz, rz HO287.out, bz⟩
def burinref04_Letter.f (k : Nat) (a0 : Int) : Option ((List (S36)) × Int) := if a0 = 100 then ((burinref04_list.f k (([48, 57] : List Int))).bind fun t291 => (some (t291, 0))) else (if a0 = 68 then ((burinref04_list.f k (([48, 57] : List Int))).bind fun t297 => ((burinref02_Not.f k t297).bind fun t300 => (some (t300, 0)))) else (if a0 = 115 then ((burinref04_list.f k (([9, 10, 12, 13, 32, 32] : List Int))).bind fun t306 => (some (t306, 0))) else (if a0 = 83 then ((burinref04_list.f k (([9, 10, 12, 13, 32, 32] : List Int))).bind fun t312 => ((burinref02_Not.f k t312).bind fun t315 => (some (t315, 0)))) else (if a0 = 119 then ((burinref04_word.f).bind fun t318 => ((burinref04_list.f k t318).bind fun t321 => (some (t321, 0)))) else (if a0 = 87 then ((burinref04_word.f).bind fun t324 => ((burinref04_list.f k t324).bind fun t327 => ((burinref02_Not.f k t327).bind fun t330 => (some (t330, 0))))) else (some (([] : List (S36)), 70)))))))
theorem burinref04_Letter.mono : ∀ a0 k, LeO (burinref04_Letter.f k a0) (burinref04_Letter.f (k + 1) a0) := by
 intro a0 k
 unfold burinref04_Letter.f
 repeat' first
   | (with_reducible exact burinref02_Not.mono _ _)
   | (with_reducible exact burinref04_list.mono _ _)
   | (with_reducible exact LeO.refl _)
   | (with_reducible exact LeO.none _)
   | (with_reducible refine LeO.ite ?_ ?_)
   | (with_reducible refine LeO.bind ?_ (fun _ => ?_))
   | exact burinref02_Not.mono _ _
   | exact burinref04_list.mono _ _
   | exact LeO.none _
   | refine LeO.ite ?_ ?_
   | refine LeO.bind ?_ (fun _ => ?_)
set_option maxHeartbeats 8000000 in
set_option maxRecDepth 100000 in
theorem burinref04_Letter.calls (k : Nat) (a0 : Int) (r1 : List (S36)) (r2 : Int) (w : World) (h : burinref04_Letter.f k a0 = some (r1, r2)) :
  Calls Tryz.prog 32 #[.int .u8 a0] w fun e w' => ∃ v0_ : Value, e = .returned (.tuple #[v0_, .int .i64 r2]) ∧ Kd.R k36 36 w' w.heap.size (fun _ => True) v0_ r1 ∧ Below w.heap.size w w' := by
 have HB := Aside0.mk (Below.refl w.heap.size w)
 have H : (if a0 = 100 then ((burinref04_list.f k (([48, 57] : List Int))).bind fun t291 => (some (t291, 0))) else (if a0 = 68 then ((burinref04_list.f k (([48, 57] : List Int))).bind fun t297 => ((burinref02_Not.f k t297).bind fun t300 => (some (t300, 0)))) else (if a0 = 115 then ((burinref04_list.f k (([9, 10, 12, 13, 32, 32] : List Int))).bind fun t306 => (some (t306, 0))) else (if a0 = 83 then ((burinref04_list.f k (([9, 10, 12, 13, 32, 32] : List Int))).bind fun t312 => ((burinref02_Not.f k t312).bind fun t315 => (some (t315, 0)))) else (if a0 = 119 then ((burinref04_word.f).bind fun t318 => ((burinref04_list.f k t318).bind fun t321 => (some (t321, 0)))) else (if a0 = 87 then ((burinref04_word.f).bind fun t324 => ((burinref04_list.f k t324).bind fun t327 => ((burinref02_Not.f k t327).bind fun t330 => (some (t330, 0))))) else (some (([] : List (S36)), 70)))))))) = some (r1, r2) := h
 clear h
 by_cases c2 : a0 = 100
 ·rw [if_pos c2] at H
  have c2b0 := beq_iff_eq.mpr c2
  have c2b1 := bne_eq_false_iff_eq.mpr c2
  clear c2
  obtain ⟨y288, hy288⟩ : ∃ y_ : List Int, y_ = (([48, 57] : List Int)) := ⟨_, rfl⟩
  replace H : ((burinref04_list.f k y288).bind fun t291 => (some (t291, 0))) = some (r1, r2) := by first | (rw [hy288]; with_reducible exact H) | (have H2_ := (Option.bind_some _ _).symm.trans H; rw [hy288]; with_reducible exact H2_) | exact H
  have Ny288 := Aside0.mk hy288
  clear hy288
  replace H := Option.bind_eq_some_iff.mp H
  obtain ⟨t291, A30, H⟩ := H
  try dsimp only at H
  have A3 := Aside0.mk A30
  clear A30
  simp only [Option.some.injEq, Prod.mk.injEq] at H
  obtain ⟨rfl, rfl⟩ := H
  go_enter Tryz.func32, Tryz.ntmps32
  go_wp2_with (first | ((with_reducible refine gate_dst (N := 7) rfl ?_); refine Kd.R_lit (Kd.int .i64) _ 3 ?hg (N := 7) ?hd (xs := ([48, 57] : List Int)) (inner := [.int .i64 48, .int .i64 57]) (ok := fun _ => True) (okp := fun _ => True) ?hr ?hp (fun _ hk => hk) trivial (Below.refl _ _) (Nat.le_refl _) (by simp) ?_; (case hd => rfl); (case hg => rfl); (case hr => first | (go_simp; done) | (go_simp; rfl)); (case hp => exact (Reps.one rfl (Reps.one rfl (Reps.none _ _)))); intro v289 w4 ho5 hb hg_ hnew_; clear hg_ hnew_; (first | rw [← Ny288.out] at ho5 | (simp only [Int.reduceToNat] at ho5; rw [← Ny288.out] at ho5)); have HO290 := Aside0.mk (Kd.R_lower ho5 (below_size bz)); replace HB := hz hb; clear hb ho5; obtain ⟨Ao6, co6, eo6⟩ := Kd.R_slice HO290.out; subst eo6) | ((with_reducible refine gate_callee (f := 60) rfl ?_); refine goesL_ (some 8) rfl rfl Tryz.func60 kz rfl #[.slice Ao6 y288.length co6] rfl mz ?_; (with_reducible refine (burinref04_list.calls k _ _ y288 t291 _ ?side1 ?side2 A3.out).mono ?_); (case side1 => exact cz (Kd.R_reads' HO290.out).2.2); (case side2 => exact (Kd.R_reads' HO290.out).2.1); rintro e w7 ⟨v292, rfl, ho0, hb⟩; refine ⟨_, rfl, ?_⟩; have HO293 := Aside0.mk (Kd.R_lower ho0 (below_size bz)); replace HO290 := Aside0.mk (Kd.R_below (rz HO290.out) hb); replace HB := hz hb; (try clear hb); (try clear ho0)))
  go_ret2
  exact ⟨_, fz, rz HO293.out, bz⟩
 rw [if_neg c2] at H
 have c2b0 := beq_eq_false_iff_ne.mpr c2
 have c2b1 := bne_iff_ne.mpr c2
 by_cases c8 : a0 = 68
 ·rw [if_pos c8] at H
  have c8b0 := beq_iff_eq.mpr c8
  have c8b1 := bne_eq_false_iff_eq.mpr c8
  clear c8
  obtain ⟨y294, hy294⟩ : ∃ y_ : List Int, y_ = (([48, 57] : List Int)) := ⟨_, rfl⟩
  replace H : ((burinref04_list.f k y294).bind fun t297 => ((burinref02_Not.f k t297).bind fun t300 => (some (t300, 0)))) = some (r1, r2) := by first | (rw [hy294]; with_reducible exact H) | (have H2_ := (Option.bind_some _ _).symm.trans H; rw [hy294]; with_reducible exact H2_) | exact H
  have Ny294 := Aside0.mk hy294
  clear hy294
  replace H := Option.bind_eq_some_iff.mp H
  obtain ⟨t297, A90, H⟩ := H
  try dsimp only at H
  have A9 := Aside0.mk A90
  clear A90
  replace H := Option.bind_eq_some_iff.mp H
  obtain ⟨t300, A100, H⟩ := H
  try dsimp only at H
  have A10 := Aside0.mk A100
  clear A100
  simp only [Option.some.injEq, Prod.mk.injEq] at H
  obtain ⟨rfl, rfl⟩ := H
  go_enter Tryz.func32, Tryz.ntmps32
  go_wp2_with (first | ((with_reducible refine gate_dst (N := 11) rfl ?_); refine Kd.R_lit (Kd.int .i64) _ 3 ?hg (N := 11) ?hd (xs := ([48, 57] : List Int)) (inner := [.int .i64 48, .int .i64 57]) (ok := fun _ => True) (okp := fun _ => True) ?hr ?hp (fun _ hk => hk) trivial (Below.refl _ _) (Nat.le_refl _) (by simp) ?_; (case hd => rfl); (case hg => rfl); (case hr => first | (go_simp; done) | (go_simp; rfl)); (case hp => exact (Reps.one rfl (Reps.one rfl (Reps.none _ _)))); intro v295 w11 ho12 hb hg_ hnew_; clear hg_ hnew_; (first | rw [← Ny294.out] at ho12 | (simp only [Int.reduceToNat] at ho12; rw [← Ny294.out] at ho12)); have HO296 := Aside0.mk (Kd.R_lower ho12 (below_size bz)); replace HB := hz hb; clear hb ho12; obtain ⟨Ao13, co13, eo13⟩ := Kd.R_slice HO296.out; subst eo13) | ((with_reducible refine gate_callee (f := 60) rfl ?_); refine goesL_ (some 12) rfl rfl Tryz.func60 kz rfl #[.slice Ao13 y294.length co13] rfl mz ?_; (with_reducible refine (burinref04_list.calls k _ _ y294 t297 _ ?side1 ?side2 A9.out).mono ?_); (case side1 => exact cz (Kd.R_reads' HO296.out).2.2); (case side2 => exact (Kd.R_reads' HO296.out).2.1); rintro e w14 ⟨v298, rfl, ho0, hb⟩; refine ⟨_, rfl, ?_⟩; have HO299 := Aside0.mk (Kd.R_lower ho0 (below_size bz)); replace HO296 := Aside0.mk (Kd.R_below (rz HO296.out) hb); replace HB := hz hb; (try clear hb); (try clear ho0); obtain ⟨Ao15, co15, eo15⟩ := Kd.R_slice HO299.out; subst eo15) | ((with_reducible refine gate_callee (f := 34) rfl ?_); refine goesL_ (some 13) rfl rfl Tryz.func34 kz rfl #[.slice Ao15 t297.length co15] rfl mz ?_; (with_reducible refine (burinref02_Not.calls k _ _ t297 t300 _ ?side1 ?side2 A10.out).mono ?_); (case side1 => exact cz (Kd.R_reads' HO299.out).2.2); (case side2 => exact (Kd.R_reads' HO299.out).2.1); rintro e w16 ⟨v301, rfl, ho0, hb⟩; refine ⟨_, rfl, ?_⟩; have HO302 := Aside0.mk (Kd.R_lower (Kd.R_new' ho0 (Kd.R_lt (rz HO299.out))) (below_size bz)); replace HO296 := Aside0.mk (Kd.R_below (rz HO296.out) hb); replace HO299 := Aside0.mk (Kd.R_elder' (rz HO299.out) (Kd.R_base ho0) hb); replace HB := hz hb; (try clear hb); (try clear ho0)))
  go_ret2
  exact ⟨_, fz, rz (R_all HO302.out), bz⟩
 rw [if_neg c8] at H
 have c8b0 := beq_eq_false_iff_ne.mpr c8
 have c8b1 := bne_iff_ne.mpr c8
 by_cases c17 : a0 = 115
 ·rw [if_pos c17] at H
  have c17b0 := beq_iff_eq.mpr c17
  have c17b1 := bne_eq_false_iff_eq.mpr c17
  clear c17
  obtain ⟨y303, hy303⟩ : ∃ y_ : List Int, y_ = (([9, 10, 12, 13, 32, 32] : List Int)) := ⟨_, rfl⟩
  rw [← hy303] at H
  try rw [Option.bind_some] at H
  have Ny303 := Aside0.mk hy303
  clear hy303
  replace H := Option.bind_eq_some_iff.mp H
  obtain ⟨t306, A180, H⟩ := H
  try dsimp only at H
  have A18 := Aside0.mk A180
  clear A180
  simp only [Option.some.injEq, Prod.mk.injEq] at H
  obtain ⟨rfl, rfl⟩ := H
  go_enter Tryz.func32, Tryz.ntmps32
  go_wp2_with (first | ((with_reducible refine gate_dst (N := 16) rfl ?_); refine Kd.R_lit (Kd.int .i64) _ 3 ?hg (N := 16) ?hd (xs := ([9, 10, 12, 13, 32, 32] : List Int)) (inner := [.int .i64 9, .int .i64 10, .int .i64 12, .int .i64 13, .int .i64 32, .int .i64 32]) (ok := fun _ => True) (okp := fun _ => True) ?hr ?hp (fun _ hk => hk) trivial (Below.refl _ _) (Nat.le_refl _) (by simp) ?_; (case hd => rfl); (case hg => rfl); (case hr => first | (go_simp; done) | (go_simp; rfl)); (case hp => exact (Reps.one rfl (Reps.one rfl (Reps.one rfl (Reps.one rfl (Reps.one rfl (Reps.one rfl (Reps.none _ _)))))))); intro v304 w19 ho20 hb hg_ hnew_; clear hg_ hnew_; (first | rw [← Ny303.out] at ho20 | (simp only [Int.reduceToNat] at ho20; rw [← Ny303.out] at ho20)); have HO305 := Aside0.mk (Kd.R_lower ho20 (below_size bz)); replace HB := hz hb; clear hb ho20; obtain ⟨Ao21, co21, eo21⟩ := Kd.R_slice HO305.out; subst eo21) | ((with_reducible refine gate_callee (f := 60) rfl ?_); refine goesL_ (some 17) rfl rfl Tryz.func60 kz rfl #[.slice Ao21 y303.length co21] rfl mz ?_; (with_reducible refine (burinref04_list.calls k _ _ y303 t306 _ ?side1 ?side2 A18.out).mono ?_); (case side1 => exact cz (Kd.R_reads' HO305.out).2.2); (case side2 => exact (Kd.R_reads' HO305.out).2.1); rintro e w22 ⟨v307, rfl, ho0, hb⟩; refine ⟨_, rfl, ?_⟩; have HO308 := Aside0.mk (Kd.R_lower ho0 (below_size bz)); replace HO305 := Aside0.mk (Kd.R_below (rz HO305.out) hb); replace HB := hz hb; (try clear hb); (try clear ho0)))
  go_ret2
  exact ⟨_, fz, rz HO308.out, bz⟩
 rw [if_neg c17] at H
 have c17b0 := beq_eq_false_iff_ne.mpr c17
 have c17b1 := bne_iff_ne.mpr c17
 by_cases c23 : a0 = 83
 ·rw [if_pos c23] at H
  have c23b0 := beq_iff_eq.mpr c23
  have c23b1 := bne_eq_false_iff_eq.mpr c23
  clear c23
  obtain ⟨y309, hy309⟩ : ∃ y_ : List Int, y_ = (([9, 10, 12, 13, 32, 32] : List Int)) := ⟨_, rfl⟩
  rw [← hy309] at H
  try rw [Option.bind_some] at H
  have Ny309 := Aside0.mk hy309
  clear hy309
  replace H := Option.bind_eq_some_iff.mp H
  obtain ⟨t312, A240, H⟩ := H
  try dsimp only at H
  have A24 := Aside0.mk A240
  clear A240
  replace H := Option.bind_eq_some_iff.mp H
  obtain ⟨t315, A250, H⟩ := H
  try dsimp only at H
  have A25 := Aside0.mk A250
  clear A250
  simp only [Option.some.injEq, Prod.mk.injEq] at H
  obtain ⟨rfl, rfl⟩ := H
  go_enter Tryz.func32, Tryz.ntmps32
  go_wp2_with (first | ((with_reducible refine gate_dst (N := 20) rfl ?_); refine Kd.R_lit (Kd.int .i64) _ 3 ?hg (N := 20) ?hd (xs := ([9, 10, 12, 13, 32, 32] : List Int)) (inner := [.int .i64 9, .int .i64 10, .int .i64 12, .int .i64 13, .int .i64 32, .int .i64 32]) (ok := fun _ => True) (okp := fun _ => True) ?hr ?hp (fun _ hk => hk) trivial (Below.refl _ _) (Nat.le_refl _) (by simp) ?_; (case hd => rfl); (case hg => rfl); (case hr => first | (go_simp; done) | (go_simp; rfl)); (case hp => exact (Reps.one rfl (Reps.one rfl (Reps.one rfl (Reps.one rfl (Reps.one rfl (Reps.one rfl (Reps.none _ _)))))))); intro v310 w26 ho27 hb hg_ hnew_; clear hg_ hnew_; (first | rw [← Ny309.out] at ho27 | (simp only [Int.reduceToNat] at ho27; rw [← Ny309.out] at ho27)); have HO311 := Aside0.mk (Kd.R_lower ho27 (below_size bz)); replace HB := hz hb; clear hb ho27; obtain ⟨Ao28, co28, eo28⟩ := Kd.R_slice HO311.out; subst eo28) | ((with_reducible refine gate_callee (f := 60) rfl ?_); refine goesL_ (some 21) rfl rfl Tryz.func60 kz rfl #[.slice Ao28 y309.length co28] rfl mz ?_; (with_reducible refine (burinref04_list.calls k _ _ y309 t312 _ ?side1 ?side2 A24.out).mono ?_); (case side1 => exact cz (Kd.R_reads' HO311.out).2.2); (case side2 => exact (Kd.R_reads' HO311.out).2.1); rintro e w29 ⟨v313, rfl, ho0, hb⟩; refine ⟨_, rfl, ?_⟩; have HO314 := Aside0.mk (Kd.R_lower ho0 (below_size bz)); replace HO311 := Aside0.mk (Kd.R_below (rz HO311.out) hb); replace HB := hz hb; (try clear hb); (try clear ho0); obtain ⟨Ao30, co30, eo30⟩ := Kd.R_slice HO314.out; subst eo30) | ((with_reducible refine gate_callee (f := 34) rfl ?_); refine goesL_ (some 22) rfl rfl Tryz.func34 kz rfl #[.slice Ao30 t312.length co30] rfl mz ?_; (with_reducible refine (burinref02_Not.calls k _ _ t312 t315 _ ?side1 ?side2 A25.out).mono ?_); (case side1 => exact cz (Kd.R_reads' HO314.out).2.2); (case side2 => exact (Kd.R_reads' HO314.out).2.1); rintro e w31 ⟨v316, rfl, ho0, hb⟩; refine ⟨_, rfl, ?_⟩; have HO317 := Aside0.mk (Kd.R_lower (Kd.R_new' ho0 (Kd.R_lt (rz HO314.out))) (below_size bz)); replace HO311 := Aside0.mk (Kd.R_below (rz HO311.out) hb); replace HO314 := Aside0.mk (Kd.R_elder' (rz HO314.out) (Kd.R_base ho0) hb); replace HB := hz hb; (try clear hb); (try clear ho0)))
  go_ret2
  exact ⟨_, fz, rz (R_all HO317.out), bz⟩
 rw [if_neg c23] at H
 have c23b0 := beq_eq_false_iff_ne.mpr c23
 have c23b1 := bne_iff_ne.mpr c23
 by_cases c32 : a0 = 119
 ·rw [if_pos c32] at H
  have c32b0 := beq_iff_eq.mpr c32
  have c32b1 := bne_eq_false_iff_eq.mpr c32
  clear c32
  replace H := Option.bind_eq_some_iff.mp H
  obtain ⟨t318, A330, H⟩ := H
  try dsimp only at H
  have A33 := Aside0.mk A330
  clear A330
  replace H := Option.bind_eq_some_iff.mp H
  obtain ⟨t321, A340, H⟩ := H
  try dsimp only at H
  have A34 := Aside0.mk A340
  clear A340
  simp only [Option.some.injEq, Prod.mk.injEq] at H
  obtain ⟨rfl, rfl⟩ := H
  go_enter Tryz.func32, Tryz.ntmps32
  go_wp2_with (first | ((with_reducible refine gate_callee (f := 61) rfl ?_); refine goesL_ (some 25) rfl rfl Tryz.func61 kz rfl #[] rfl mz ?_; (with_reducible refine (burinref04_word.calls  t318 _ A33.out).mono ?_); rintro e w35 ⟨v319, rfl, ho0, hb⟩; refine ⟨_, rfl, ?_⟩; have HO320 := Aside0.mk (Kd.R_lower ho0 (below_size bz)); replace HB := hz hb; (try clear hb); (try clear ho0); obtain ⟨Ao36, co36, eo36⟩ := Kd.R_slice HO320.out; subst eo36) | ((with_reducible refine gate_callee (f := 60) rfl ?_); refine goesL_ (some 26) rfl rfl Tryz.func60 kz rfl #[.slice Ao36 t318.length co36] rfl mz ?_; (with_reducible refine (burinref04_list.calls k _ _ t318 t321 _ ?side1 ?side2 A34.out).mono ?_); (case side1 => exact cz (Kd.R_reads' HO320.out).2.2); (case side2 => exact (Kd.R_reads' HO320.out).2.1); rintro e w37 ⟨v322, rfl, ho0, hb⟩; refine ⟨_, rfl, ?_⟩; have HO323 := Aside0.mk (Kd.R_lower ho0 (below_size bz)); replace HO320 := Aside0.mk (Kd.R_below (rz HO320.out) hb); replace HB := hz hb; (try clear hb); (try clear ho0)))
  go_ret2
  exact ⟨_, fz, rz HO323.out, bz⟩
 rw [if_neg c32] at H
 have c32b0 := beq_eq_false_iff_ne.mpr c32
 have c32b1 := bne_iff_ne.mpr c32
 by_cases c38 : a0 = 87
 ·rw [if_pos c38] at H
  have c38b0 := beq_iff_eq.mpr c38
  have c38b1 := bne_eq_false_iff_eq.mpr c38
  clear c38
  replace H := Option.bind_eq_some_iff.mp H
  obtain ⟨t324, A390, H⟩ := H
  try dsimp only at H
  have A39 := Aside0.mk A390
  clear A390
  replace H := Option.bind_eq_some_iff.mp H
  obtain ⟨t327, A400, H⟩ := H
  try dsimp only at H
  have A40 := Aside0.mk A400
  clear A400
  replace H := Option.bind_eq_some_iff.mp H
  obtain ⟨t330, A410, H⟩ := H
  try dsimp only at H
  have A41 := Aside0.mk A410
  clear A410
  simp only [Option.some.injEq, Prod.mk.injEq] at H
  obtain ⟨rfl, rfl⟩ := H
  go_enter Tryz.func32, Tryz.ntmps32
  go_wp2_with (first | ((with_reducible refine gate_callee (f := 61) rfl ?_); refine goesL_ (some 29) rfl rfl Tryz.func61 kz rfl #[] rfl mz ?_; (with_reducible refine (burinref04_word.calls  t324 _ A39.out).mono ?_); rintro e w42 ⟨v325, rfl, ho0, hb⟩; refine ⟨_, rfl, ?_⟩; have HO326 := Aside0.mk (Kd.R_lower ho0 (below_size bz)); replace HB := hz hb; (try clear hb); (try clear ho0); obtain ⟨Ao43, co43, eo43⟩ := Kd.R_slice HO326.out; subst eo43) | ((with_reducible refine gate_callee (f := 60) rfl ?_); refine goesL_ (some 30) rfl rfl Tryz.func60 kz rfl #[.slice Ao43 t324.length co43] rfl mz ?_; (with_reducible refine (burinref04_list.calls k _ _ t324 t327 _ ?side1 ?side2 A40.out).mono ?_); (case side1 => exact cz (Kd.R_reads' HO326.out).2.2); (case side2 => exact (Kd.R_reads' HO326.out).2.1); rintro e w44 ⟨v328, rfl, ho0, hb⟩; refine ⟨_, rfl, ?_⟩; have HO329 := Aside0.mk (Kd.R_lower ho0 (below_size bz)); replace HO326 := Aside0.mk (Kd.R_below (rz HO326.out) hb); replace HB := hz hb; (try clear hb); (try clear ho0); obtain ⟨Ao45, co45, eo45⟩ := Kd.R_slice HO329.out; subst eo45) | ((with_reducible refine gate_callee (f := 34) rfl ?_); refine goesL_ (some 31) rfl rfl Tryz.func34 kz rfl #[.slice Ao45 t327.length co45] rfl mz ?_; (with_reducible refine (burinref02_Not.calls k _ _ t327 t330 _ ?side1 ?side2 A41.out).mono ?_); (case side1 => exact cz (Kd.R_reads' HO329.out).2.2); (case side2 => exact (Kd.R_reads' HO329.out).2.1); rintro e w46 ⟨v331, rfl, ho0, hb⟩; refine ⟨_, rfl, ?_⟩; have HO332 := Aside0.mk (Kd.R_lower (Kd.R_new' ho0 (Kd.R_lt (rz HO329.out))) (below_size bz)); replace HO326 := Aside0.mk (Kd.R_below (rz HO326.out) hb); replace HO329 := Aside0.mk (Kd.R_elder' (rz HO329.out) (Kd.R_base ho0) hb); replace HB := hz hb; (try clear hb); (try clear ho0)))
  go_ret2
  exact ⟨_, fz, rz (R_all HO332.out), bz⟩
 rw [if_neg c38] at H
 have c38b0 := beq_eq_false_iff_ne.mpr c38
 have c38b1 := bne_iff_ne.mpr c38
 simp only [Option.some.injEq, Prod.mk.injEq] at H
 obtain ⟨rfl, rfl⟩ := H
 go_enter Tryz.func32, Tryz.ntmps32
 go_wp2
 go_ret2
 exact ⟨_, fz, by first | exact Kd.R_nil _ _ _ _ _ | exact Kd.N_nil _ _ _ _ _ | exact Kd.V_nil _ _ _ _ _ | exact Kd.Q_nil _ _ _ _ _ | exact Kd.S_nil _ _ _ _ _, bz⟩
def burinref04_bare.f (a0 : ByteArray) : Option (ByteArray × Bool) := if (a0.size : Int) > 0 then (if 0 < (a0.size : Int) then (if (bt a0 0) = 94 then (if 1 ≤ (a0.size : Int) then (some (a0.extract 1 a0.size, true)) else (none)) else (some (a0, false))) else (none)) else (some (a0, false))
set_option maxHeartbeats 8000000 in
set_option maxRecDepth 100000 in
theorem burinref04_bare.calls (a0 : ByteArray) (r1 : ByteArray) (r2 : Bool) (w : World) (h : burinref04_bare.f a0 = some (r1, r2)) :
  Calls Tryz.prog 62 #[.string a0] w fun e w' => e = .returned (.tuple #[.string r1, .bool r2]) ∧ Drawn0 w w' := by
 have H : (if (a0.size : Int) > 0 then (if 0 < (a0.size : Int) then (if (bt a0 0) = 94 then (if 1 ≤ (a0.size : Int) then (some (a0.extract 1 a0.size, true)) else (none)) else (some (a0, false))) else (none)) else (some (a0, false))) = some (r1, r2) := h
 clear h
 by_cases c2 : (a0.size : Int) > 0
 ·rw [if_pos c2] at H
  have c2b0 : decide (0 < (a0.size : Int)) = true := decide_eq_true c2
  have c2b1 : decide (0 < a0.size) = true := decide_eq_true (by omega)
  clear c2
  by_cases c3 : 0 < (a0.size : Int)
  rotate_left
  ·exact nomatch (if_neg c3).symm.trans H
  rw [if_pos c3] at H
  have c3b0 := decide_eq_true c3
  have c3b1 : decide (0 < a0.size) = true := decide_eq_true (by omega)
  clear c3
  by_cases c5 : (bt a0 0) = 94
  ·rw [if_pos c5] at H
   have c5b0 := beq_iff_eq.mpr c5
   have c5b1 := bne_eq_false_iff_eq.mpr c5
   clear c5
   by_cases c6 : 1 ≤ (a0.size : Int)
   rotate_left
   ·exact nomatch (if_neg c6).symm.trans H
   rw [if_pos c6] at H
   have c6b0 := eq_true c6
   have c6b1 := decide_eq_true c6
   clear c6
   simp only [Option.some.injEq, Prod.mk.injEq] at H
   obtain ⟨rfl, rfl⟩ := H
   have q4 : 0 < a0.size := (by have : (0 : Int) < (a0.size : Int) := oz; omega)
   have hx4 : ∀ h : 0 < a0.size, ((a0[0]'h).toNat : Int) = bt a0 0 := bt_at a0 0
   have qi4 : (0 < (a0.size : Int)) = True := eq_true (oz)
   replace q4 := eq_true q4
   go_enter Tryz.func62, Tryz.ntmps62
   go_wp2
   go_ret2
   exact ⟨ez, dz⟩
  rw [if_neg c5] at H
  have c5b0 := beq_eq_false_iff_ne.mpr c5
  have c5b1 := bne_iff_ne.mpr c5
  simp only [Option.some.injEq, Prod.mk.injEq] at H
  obtain ⟨rfl, rfl⟩ := H
  have q4 : 0 < a0.size := (by have : (0 : Int) < (a0.size : Int) := oz; omega)
  have hx4 : ∀ h : 0 < a0.size, ((a0[0]'h).toNat : Int) = bt a0 0 := bt_at a0 0
  have qi4 : (0 < (a0.size : Int)) = True := eq_true (oz)
  replace q4 := eq_true q4
  go_enter Tryz.func62, Tryz.ntmps62
  go_wp2
  go_ret2
  exact ⟨ez, dz⟩
 rw [if_neg c2] at H
 have c2b0 : decide (0 < (a0.size : Int)) = false := decide_eq_false c2
 have c2b1 : decide (0 < a0.size) = false := decide_eq_false (by omega)
 clear c2
 simp only [Option.some.injEq, Prod.mk.injEq] at H
 obtain ⟨rfl, rfl⟩ := H
 go_enter Tryz.func62, Tryz.ntmps62
 go_wp2
 go_ret2
 exact ⟨ez, dz⟩
def burinref04_cyrillic.f  : Option (List Int) := some (([1024, 1156, 1159, 1327] : List Int))
set_option maxHeartbeats 8000000 in
set_option maxRecDepth 100000 in
theorem burinref04_cyrillic.calls  (r : List Int) (w : World) (h : burinref04_cyrillic.f  = some r) :
  Calls Tryz.prog 90 #[] w fun e w' => ∃ v0_ : Value, e = .returned (v0_) ∧ Kd.R (Kd.int .i64) 3 w' w.heap.size (fun _ => True) v0_ r ∧ Below w.heap.size w w' := by
 have HB := Aside0.mk (Below.refl w.heap.size w)
 have H : (some (([1024, 1156, 1159, 1327] : List Int))) = some r := h
 clear h
 obtain ⟨y333, hy333⟩ : ∃ y_ : List Int, y_ = (([1024, 1156, 1159, 1327] : List Int)) := ⟨_, rfl⟩
 rw [← hy333] at H
 try rw [Option.bind_some] at H
 have Ny333 := Aside0.mk hy333
 clear hy333
 obtain rfl := Option.some.inj H
 go_enter Tryz.func90, Tryz.ntmps90
 go_wp2_with (first | ((with_reducible refine gate_dst (N := 1) rfl ?_); refine Kd.R_lit (Kd.int .i64) _ 3 ?hg (N := 1) ?hd (xs := ([1024, 1156, 1159, 1327] : List Int)) (inner := [.int .i64 1024, .int .i64 1156, .int .i64 1159, .int .i64 1327]) (ok := fun _ => True) (okp := fun _ => True) ?hr ?hp (fun _ hk => hk) trivial (Below.refl _ _) (Nat.le_refl _) (by simp) ?_; (case hd => rfl); (case hg => rfl); (case hr => first | (go_simp; done) | (go_simp; rfl)); (case hp => exact (Reps.one rfl (Reps.one rfl (Reps.one rfl (Reps.one rfl (Reps.none _ _)))))); intro v334 w1 ho2 hb hg_ hnew_; clear hg_ hnew_; (first | rw [← Ny333.out] at ho2 | (simp only [Int.reduceToNat] at ho2; rw [← Ny333.out] at ho2)); have HO335 := Aside0.mk (Kd.R_lower ho2 (below_size bz)); replace HB := hz hb; clear hb ho2))
 go_ret
 exact ⟨_, fz, rz HO335.out, bz⟩
def burinref04_greek.f  : Option (List Int) := some (([880, 883, 885, 887, 890, 893, 895, 895, 900, 900, 902, 902, 904, 906, 908, 908, 910, 929, 931, 993, 1008, 1023, 8486, 8486] : List Int))
set_option maxHeartbeats 8000000 in
set_option maxRecDepth 100000 in
theorem burinref04_greek.calls  (r : List Int) (w : World) (h : burinref04_greek.f  = some r) :
  Calls Tryz.prog 91 #[] w fun e w' => ∃ v0_ : Value, e = .returned (v0_) ∧ Kd.R (Kd.int .i64) 3 w' w.heap.size (fun _ => True) v0_ r ∧ Below w.heap.size w w' := by
 have HB := Aside0.mk (Below.refl w.heap.size w)
 have H : (some (([880, 883, 885, 887, 890, 893, 895, 895, 900, 900, 902, 902, 904, 906, 908, 908, 910, 929, 931, 993, 1008, 1023, 8486, 8486] : List Int))) = some r := h
 clear h
 obtain ⟨y336, hy336⟩ : ∃ y_ : List Int, y_ = (([880, 883, 885, 887, 890, 893, 895, 895, 900, 900, 902, 902, 904, 906, 908, 908, 910, 929, 931, 993, 1008, 1023, 8486, 8486] : List Int)) := ⟨_, rfl⟩
 rw [← hy336] at H
 try rw [Option.bind_some] at H
 have Ny336 := Aside0.mk hy336
 clear hy336
 obtain rfl := Option.some.inj H
 go_enter Tryz.func91, Tryz.ntmps91
 go_wp2_with (first | ((with_reducible refine gate_dst (N := 1) rfl ?_); refine Kd.R_lit (Kd.int .i64) _ 3 ?hg (N := 1) ?hd (xs := ([880, 883, 885, 887, 890, 893, 895, 895, 900, 900, 902, 902, 904, 906, 908, 908, 910, 929, 931, 993, 1008, 1023, 8486, 8486] : List Int)) (inner := [.int .i64 880, .int .i64 883, .int .i64 885, .int .i64 887, .int .i64 890, .int .i64 893, .int .i64 895, .int .i64 895, .int .i64 900, .int .i64 900, .int .i64 902, .int .i64 902, .int .i64 904, .int .i64 906, .int .i64 908, .int .i64 908, .int .i64 910, .int .i64 929, .int .i64 931, .int .i64 993, .int .i64 1008, .int .i64 1023, .int .i64 8486, .int .i64 8486]) (ok := fun _ => True) (okp := fun _ => True) ?hr ?hp (fun _ hk => hk) trivial (Below.refl _ _) (Nat.le_refl _) (by simp) ?_; (case hd => rfl); (case hg => rfl); (case hr => first | (go_simp; done) | (go_simp; rfl)); (case hp => exact (Reps.one rfl (Reps.one rfl (Reps.one rfl (Reps.one rfl (Reps.one rfl (Reps.one rfl (Reps.one rfl (Reps.one rfl (Reps.one rfl (Reps.one rfl (Reps.one rfl (Reps.one rfl (Reps.one rfl (Reps.one rfl (Reps.one rfl (Reps.one rfl (Reps.one rfl (Reps.one rfl (Reps.one rfl (Reps.one rfl (Reps.one rfl (Reps.one rfl (Reps.one rfl (Reps.one rfl (Reps.none _ _)))))))))))))))))))))))))); intro v337 w1 ho2 hb hg_ hnew_; clear hg_ hnew_; (first | rw [← Ny336.out] at ho2 | (simp only [Int.reduceToNat] at ho2; rw [← Ny336.out] at ho2)); have HO338 := Aside0.mk (Kd.R_lower ho2 (below_size bz)); replace HB := hz hb; clear hb ho2))
 go_ret
 exact ⟨_, fz, rz HO338.out, bz⟩
def burinref04_capitals.f  : Option (List Int) := some (([65, 90, 192, 214, 216, 222, 376, 376, 913, 929, 931, 939, 1024, 1071] : List Int))
set_option maxHeartbeats 8000000 in
set_option maxRecDepth 100000 in
theorem burinref04_capitals.calls  (r : List Int) (w : World) (h : burinref04_capitals.f  = some r) :
  Calls Tryz.prog 92 #[] w fun e w' => ∃ v0_ : Value, e = .returned (v0_) ∧ Kd.R (Kd.int .i64) 3 w' w.heap.size (fun _ => True) v0_ r ∧ Below w.heap.size w w' := by
 have HB := Aside0.mk (Below.refl w.heap.size w)
 have H : (some (([65, 90, 192, 214, 216, 222, 376, 376, 913, 929, 931, 939, 1024, 1071] : List Int))) = some r := h
 clear h
 obtain ⟨y339, hy339⟩ : ∃ y_ : List Int, y_ = (([65, 90, 192, 214, 216, 222, 376, 376, 913, 929, 931, 939, 1024, 1071] : List Int)) := ⟨_, rfl⟩
 rw [← hy339] at H
 try rw [Option.bind_some] at H
 have Ny339 := Aside0.mk hy339
 clear hy339
 obtain rfl := Option.some.inj H
 go_enter Tryz.func92, Tryz.ntmps92
 go_wp2_with (first | ((with_reducible refine gate_dst (N := 1) rfl ?_); refine Kd.R_lit (Kd.int .i64) _ 3 ?hg (N := 1) ?hd (xs := ([65, 90, 192, 214, 216, 222, 376, 376, 913, 929, 931, 939, 1024, 1071] : List Int)) (inner := [.int .i64 65, .int .i64 90, .int .i64 192, .int .i64 214, .int .i64 216, .int .i64 222, .int .i64 376, .int .i64 376, .int .i64 913, .int .i64 929, .int .i64 931, .int .i64 939, .int .i64 1024, .int .i64 1071]) (ok := fun _ => True) (okp := fun _ => True) ?hr ?hp (fun _ hk => hk) trivial (Below.refl _ _) (Nat.le_refl _) (by simp) ?_; (case hd => rfl); (case hg => rfl); (case hr => first | (go_simp; done) | (go_simp; rfl)); (case hp => exact (Reps.one rfl (Reps.one rfl (Reps.one rfl (Reps.one rfl (Reps.one rfl (Reps.one rfl (Reps.one rfl (Reps.one rfl (Reps.one rfl (Reps.one rfl (Reps.one rfl (Reps.one rfl (Reps.one rfl (Reps.one rfl (Reps.none _ _)))))))))))))))); intro v340 w1 ho2 hb hg_ hnew_; clear hg_ hnew_; (first | rw [← Ny339.out] at ho2 | (simp only [Int.reduceToNat] at ho2; rw [← Ny339.out] at ho2)); have HO341 := Aside0.mk (Kd.R_lower ho2 (below_size bz)); replace HB := hz hb; clear hb ho2))
 go_ret
 exact ⟨_, fz, rz HO341.out, bz⟩
def burinref04_small.f  : Option (List Int) := some (([97, 122, 181, 181, 223, 246, 248, 255, 940, 974, 1072, 1119, 383, 383] : List Int))
set_option maxHeartbeats 8000000 in
set_option maxRecDepth 100000 in
theorem burinref04_small.calls  (r : List Int) (w : World) (h : burinref04_small.f  = some r) :
  Calls Tryz.prog 93 #[] w fun e w' => ∃ v0_ : Value, e = .returned (v0_) ∧ Kd.R (Kd.int .i64) 3 w' w.heap.size (fun _ => True) v0_ r ∧ Below w.heap.size w w' := by
 have HB := Aside0.mk (Below.refl w.heap.size w)
 have H : (some (([97, 122, 181, 181, 223, 246, 248, 255, 940, 974, 1072, 1119, 383, 383] : List Int))) = some r := h
 clear h
 obtain ⟨y342, hy342⟩ : ∃ y_ : List Int, y_ = (([97, 122, 181, 181, 223, 246, 248, 255, 940, 974, 1072, 1119, 383, 383] : List Int)) := ⟨_, rfl⟩
 rw [← hy342] at H
 try rw [Option.bind_some] at H
 have Ny342 := Aside0.mk hy342
 clear hy342
 obtain rfl := Option.some.inj H
 go_enter Tryz.func93, Tryz.ntmps93
 go_wp2_with (first | ((with_reducible refine gate_dst (N := 1) rfl ?_); refine Kd.R_lit (Kd.int .i64) _ 3 ?hg (N := 1) ?hd (xs := ([97, 122, 181, 181, 223, 246, 248, 255, 940, 974, 1072, 1119, 383, 383] : List Int)) (inner := [.int .i64 97, .int .i64 122, .int .i64 181, .int .i64 181, .int .i64 223, .int .i64 246, .int .i64 248, .int .i64 255, .int .i64 940, .int .i64 974, .int .i64 1072, .int .i64 1119, .int .i64 383, .int .i64 383]) (ok := fun _ => True) (okp := fun _ => True) ?hr ?hp (fun _ hk => hk) trivial (Below.refl _ _) (Nat.le_refl _) (by simp) ?_; (case hd => rfl); (case hg => rfl); (case hr => first | (go_simp; done) | (go_simp; rfl)); (case hp => exact (Reps.one rfl (Reps.one rfl (Reps.one rfl (Reps.one rfl (Reps.one rfl (Reps.one rfl (Reps.one rfl (Reps.one rfl (Reps.one rfl (Reps.one rfl (Reps.one rfl (Reps.one rfl (Reps.one rfl (Reps.one rfl (Reps.none _ _)))))))))))))))); intro v343 w1 ho2 hb hg_ hnew_; clear hg_ hnew_; (first | rw [← Ny342.out] at ho2 | (simp only [Int.reduceToNat] at ho2; rw [← Ny342.out] at ho2)); have HO344 := Aside0.mk (Kd.R_lower ho2 (below_size bz)); replace HB := hz hb; clear hb ho2))
 go_ret
 exact ⟨_, fz, rz HO344.out, bz⟩
def burinref04_latin.f  : Option (List Int) := some (([65, 90, 97, 122, 170, 170, 186, 186, 192, 214, 216, 246, 248, 591] : List Int))
set_option maxHeartbeats 8000000 in
set_option maxRecDepth 100000 in
theorem burinref04_latin.calls  (r : List Int) (w : World) (h : burinref04_latin.f  = some r) :
  Calls Tryz.prog 94 #[] w fun e w' => ∃ v0_ : Value, e = .returned (v0_) ∧ Kd.R (Kd.int .i64) 3 w' w.heap.size (fun _ => True) v0_ r ∧ Below w.heap.size w w' := by
 have HB := Aside0.mk (Below.refl w.heap.size w)
 have H : (some (([65, 90, 97, 122, 170, 170, 186, 186, 192, 214, 216, 246, 248, 591] : List Int))) = some r := h
 clear h
 obtain ⟨y345, hy345⟩ : ∃ y_ : List Int, y_ = (([65, 90, 97, 122, 170, 170, 186, 186, 192, 214, 216, 246, 248, 591] : List Int)) := ⟨_, rfl⟩
 rw [← hy345] at H
 try rw [Option.bind_some] at H
 have Ny345 := Aside0.mk hy345
 clear hy345
 obtain rfl := Option.some.inj H
 go_enter Tryz.func94, Tryz.ntmps94
 go_wp2_with (first | ((with_reducible refine gate_dst (N := 1) rfl ?_); refine Kd.R_lit (Kd.int .i64) _ 3 ?hg (N := 1) ?hd (xs := ([65, 90, 97, 122, 170, 170, 186, 186, 192, 214, 216, 246, 248, 591] : List Int)) (inner := [.int .i64 65, .int .i64 90, .int .i64 97, .int .i64 122, .int .i64 170, .int .i64 170, .int .i64 186, .int .i64 186, .int .i64 192, .int .i64 214, .int .i64 216, .int .i64 246, .int .i64 248, .int .i64 591]) (ok := fun _ => True) (okp := fun _ => True) ?hr ?hp (fun _ hk => hk) trivial (Below.refl _ _) (Nat.le_refl _) (by simp) ?_; (case hd => rfl); (case hg => rfl); (case hr => first | (go_simp; done) | (go_simp; rfl)); (case hp => exact (Reps.one rfl (Reps.one rfl (Reps.one rfl (Reps.one rfl (Reps.one rfl (Reps.one rfl (Reps.one rfl (Reps.one rfl (Reps.one rfl (Reps.one rfl (Reps.one rfl (Reps.one rfl (Reps.one rfl (Reps.one rfl (Reps.none _ _)))))))))))))))); intro v346 w1 ho2 hb hg_ hnew_; clear hg_ hnew_; (first | rw [← Ny345.out] at ho2 | (simp only [Int.reduceToNat] at ho2; rw [← Ny345.out] at ho2)); have HO347 := Aside0.mk (Kd.R_lower ho2 (below_size bz)); replace HB := hz hb; clear hb ho2))
 go_ret
 exact ⟨_, fz, rz HO347.out, bz⟩
def burinref04_property.f (a0 : ByteArray) : Option (List Int × Bool) := if a0.toList = ([65, 110, 121] : List UInt8) then (some ((([0, 1114111] : List Int)), true)) else (if a0.toList = ([67, 121, 114, 105, 108, 108, 105, 99] : List UInt8) then ((burinref04_cyrillic.f).bind fun t351 => (some (t351, true))) else (if a0.toList = ([71, 114, 101, 101, 107] : List UInt8) then ((burinref04_greek.f).bind fun t354 => (some (t354, true))) else (if a0.toList = ([76] : List UInt8) then ((burinref04_capitals.f).bind fun t357 => ((burinref04_small.f).bind fun t360 => (if t357.length + t360.length < 17592186044416 then ((some (t357 ++ t360 : List Int)).bind fun y363 => ((burinref04_latin.f).bind fun t366 => (if y363.length + t366.length < 17592186044416 then ((some (y363 ++ t366 : List Int)).bind fun y369 => ((burinref04_greek.f).bind fun t372 => (if y369.length + t372.length < 17592186044416 then ((some (y369 ++ t372 : List Int)).bind fun y375 => ((burinref04_cyrillic.f).bind fun t378 => (if y375.length + t378.length < 17592186044416 then (some ((y375 ++ t378), true)) else (none)))) else (none)))) else (none)))) else (none)))) else (if a0.toList = ([76, 97, 116, 105, 110] : List UInt8) then ((burinref04_latin.f).bind fun t384 => (some (t384, true))) else (if a0.toList = ([76, 108] : List UInt8) then ((burinref04_small.f).bind fun t387 => (some (t387, true))) else (if a0.toList = ([76, 117] : List UInt8) then ((burinref04_capitals.f).bind fun t390 => (some (t390, true))) else (if a0.toList = ([78, 100] : List UInt8) then (some ((([48, 57, 1632, 1641, 1776, 1785, 2406, 2415] : List Int)), true)) else (some (([] : List Int), false)))))))))
set_option maxHeartbeats 8000000 in
set_option maxRecDepth 100000 in
theorem burinref04_property.calls (a0 : ByteArray) (r1 : List Int) (r2 : Bool) (w : World) (h : burinref04_property.f a0 = some (r1, r2)) :
  Calls Tryz.prog 63 #[.string a0] w fun e w' => ∃ v0_ : Value, e = .returned (.tuple #[v0_, .bool r2]) ∧ Kd.R (Kd.int .i64) 3 w' w.heap.size (fun _ => True) v0_ r1 ∧ Below w.heap.size w w' := by
 have HB := Aside0.mk (Below.refl w.heap.size w)
 have H : (if a0.toList = ([65, 110, 121] : List UInt8) then (some ((([0, 1114111] : List Int)), true)) else (if a0.toList = ([67, 121, 114, 105, 108, 108, 105, 99] : List UInt8) then ((burinref04_cyrillic.f).bind fun t351 => (some (t351, true))) else (if a0.toList = ([71, 114, 101, 101, 107] : List UInt8) then ((burinref04_greek.f).bind fun t354 => (some (t354, true))) else (if a0.toList = ([76] : List UInt8) then ((burinref04_capitals.f).bind fun t357 => ((burinref04_small.f).bind fun t360 => (if t357.length + t360.length < 17592186044416 then ((some (t357 ++ t360 : List Int)).bind fun y363 => ((burinref04_latin.f).bind fun t366 => (if y363.length + t366.length < 17592186044416 then ((some (y363 ++ t366 : List Int)).bind fun y369 => ((burinref04_greek.f).bind fun t372 => (if y369.length + t372.length < 17592186044416 then ((some (y369 ++ t372 : List Int)).bind fun y375 => ((burinref04_cyrillic.f).bind fun t378 => (if y375.length + t378.length < 17592186044416 then (some ((y375 ++ t378), true)) else (none)))) else (none)))) else (none)))) else (none)))) else (if a0.toList = ([76, 97, 116, 105, 110] : List UInt8) then ((burinref04_latin.f).bind fun t384 => (some (t384, true))) else (if a0.toList = ([76, 108] : List UInt8) then ((burinref04_small.f).bind fun t387 => (some (t387, true))) else (if a0.toList = ([76, 117] : List UInt8) then ((burinref04_capitals.f).bind fun t390 => (some (t390, true))) else (if a0.toList = ([78, 100] : List UInt8) then (some ((([48, 57, 1632, 1641, 1776, 1785, 2406, 2415] : List Int)), true)) else (some (([] : List Int), false)))))))))) = some (r1, r2) := h
 clear h
 by_cases c2 : a0.toList = ([65, 110, 121] : List UInt8)
 ·rw [if_pos c2] at H
  have c2b0 := beq_iff_eq.mpr c2
  have c2b1 := bne_eq_false_iff_eq.mpr c2
  clear c2
  obtain ⟨y348, hy348⟩ : ∃ y_ : List Int, y_ = (([0, 1114111] : List Int)) := ⟨_, rfl⟩
  rw [← hy348] at H
  try rw [Option.bind_some] at H
  have Ny348 := Aside0.mk hy348
  clear hy348
  simp only [Option.some.injEq, Prod.mk.injEq] at H
  obtain ⟨rfl, rfl⟩ := H
  go_enter Tryz.func63, Tryz.ntmps63
  go_wp2_with (first | ((with_reducible refine gate_dst (N := 8) rfl ?_); refine Kd.R_lit (Kd.int .i64) _ 3 ?hg (N := 8) ?hd (xs := ([0, 1114111] : List Int)) (inner := [.int .i64 0, .int .i64 1114111]) (ok := fun _ => True) (okp := fun _ => True) ?hr ?hp (fun _ hk => hk) trivial (Below.refl _ _) (Nat.le_refl _) (by simp) ?_; (case hd => rfl); (case hg => rfl); (case hr => first | (go_simp; done) | (go_simp; rfl)); (case hp => exact (Reps.one rfl (Reps.one rfl (Reps.none _ _)))); intro v349 w3 ho4 hb hg_ hnew_; clear hg_ hnew_; (first | rw [← Ny348.out] at ho4 | (simp only [Int.reduceToNat] at ho4; rw [← Ny348.out] at ho4)); have HO350 := Aside0.mk (Kd.R_lower ho4 (below_size bz)); replace HB := hz hb; clear hb ho4))
  go_ret2
  exact ⟨_, fz, rz HO350.out, bz⟩
 rw [if_neg c2] at H
 have c2b0 := beq_eq_false_iff_ne.mpr c2
 have c2b1 := bne_iff_ne.mpr c2
 by_cases c5 : a0.toList = ([67, 121, 114, 105, 108, 108, 105, 99] : List UInt8)
 ·rw [if_pos c5] at H
  have c5b0 := beq_iff_eq.mpr c5
  have c5b1 := bne_eq_false_iff_eq.mpr c5
  clear c5
  replace H := Option.bind_eq_some_iff.mp H
  obtain ⟨t351, A60, H⟩ := H
  try dsimp only at H
  have A6 := Aside0.mk A60
  clear A60
  simp only [Option.some.injEq, Prod.mk.injEq] at H
  obtain ⟨rfl, rfl⟩ := H
  go_enter Tryz.func63, Tryz.ntmps63
  go_wp2_with (first | ((with_reducible refine gate_callee (f := 90) rfl ?_); refine goesL_ (some 11) rfl rfl Tryz.func90 kz rfl #[] rfl mz ?_; (with_reducible refine (burinref04_cyrillic.calls  t351 _ A6.out).mono ?_); rintro e w7 ⟨v352, rfl, ho0, hb⟩; refine ⟨_, rfl, ?_⟩; have HO353 := Aside0.mk (Kd.R_lower ho0 (below_size bz)); replace HB := hz hb; (try clear hb); (try clear ho0)))
  go_ret2
  exact ⟨_, fz, rz HO353.out, bz⟩
 rw [if_neg c5] at H
 have c5b0 := beq_eq_false_iff_ne.mpr c5
 have c5b1 := bne_iff_ne.mpr c5
 by_cases c8 : a0.toList = ([71, 114, 101, 101, 107] : List UInt8)
 ·rw [if_pos c8] at H
  have c8b0 := beq_iff_eq.mpr c8
  have c8b1 := bne_eq_false_iff_eq.mpr c8
  clear c8
  replace H := Option.bind_eq_some_iff.mp H
  obtain ⟨t354, A90, H⟩ := H
  try dsimp only at H
  have A9 := Aside0.mk A90
  clear A90
  simp only [Option.some.injEq, Prod.mk.injEq] at H
  obtain ⟨rfl, rfl⟩ := H
  go_enter Tryz.func63, Tryz.ntmps63
  go_wp2_with (first | ((with_reducible refine gate_callee (f := 91) rfl ?_); refine goesL_ (some 14) rfl rfl Tryz.func91 kz rfl #[] rfl mz ?_; (with_reducible refine (burinref04_greek.calls  t354 _ A9.out).mono ?_); rintro e w10 ⟨v355, rfl, ho0, hb⟩; refine ⟨_, rfl, ?_⟩; have HO356 := Aside0.mk (Kd.R_lower ho0 (below_size bz)); replace HB := hz hb; (try clear hb); (try clear ho0)))
  go_ret2
  exact ⟨_, fz, rz HO356.out, bz⟩
 rw [if_neg c8] at H
 have c8b0 := beq_eq_false_iff_ne.mpr c8
 have c8b1 := bne_iff_ne.mpr c8
 by_cases c11 : a0.toList = ([76] : List UInt8)
 ·rw [if_pos c11] at H
  have c11b0 := beq_iff_eq.mpr c11
  have c11b1 := bne_eq_false_iff_eq.mpr c11
  clear c11
  replace H := Option.bind_eq_some_iff.mp H
  obtain ⟨t357, A120, H⟩ := H
  try dsimp only at H
  have A12 := Aside0.mk A120
  clear A120
  replace H := Option.bind_eq_some_iff.mp H
  obtain ⟨t360, A130, H⟩ := H
  try dsimp only at H
  have A13 := Aside0.mk A130
  clear A130
  by_cases c14 : t357.length + t360.length < 17592186044416
  rotate_left
  ·exact nomatch (if_neg c14).symm.trans H
  rw [if_pos c14] at H
  have LMc14 := Aside0.mk c14
  clear c14
  obtain ⟨y363, hy363⟩ : ∃ y_ : List Int, y_ = (t357 ++ t360) := ⟨_, rfl⟩
  replace H : ((burinref04_latin.f).bind fun t366 => (if y363.length + t366.length < 17592186044416 then ((some (y363 ++ t366 : List Int)).bind fun y369 => ((burinref04_greek.f).bind fun t372 => (if y369.length + t372.length < 17592186044416 then ((some (y369 ++ t372 : List Int)).bind fun y375 => ((burinref04_cyrillic.f).bind fun t378 => (if y375.length + t378.length < 17592186044416 then (some ((y375 ++ t378), true)) else (none)))) else (none)))) else (none))) = some (r1, r2) := by first | (rw [hy363]; with_reducible exact H) | (have H2_ := (Option.bind_some _ _).symm.trans H; rw [hy363]; with_reducible exact H2_) | exact H
  have Ny363 := Aside0.mk hy363
  clear hy363
  replace H := Option.bind_eq_some_iff.mp H
  obtain ⟨t366, A150, H⟩ := H
  try dsimp only at H
  have A15 := Aside0.mk A150
  clear A150
  by_cases c16 : y363.length + t366.length < 17592186044416
  rotate_left
  ·exact nomatch (if_neg c16).symm.trans H
  rw [if_pos c16] at H
  have LMc16 := Aside0.mk c16
  clear c16
  obtain ⟨y369, hy369⟩ : ∃ y_ : List Int, y_ = (y363 ++ t366) := ⟨_, rfl⟩
  replace H : ((burinref04_greek.f).bind fun t372 => (if y369.length + t372.length < 17592186044416 then ((some (y369 ++ t372 : List Int)).bind fun y375 => ((burinref04_cyrillic.f).bind fun t378 => (if y375.length + t378.length < 17592186044416 then (some ((y375 ++ t378), true)) else (none)))) else (none))) = some (r1, r2) := by first | (rw [hy369]; with_reducible exact H) | (have H2_ := (Option.bind_some _ _).symm.trans H; rw [hy369]; with_reducible exact H2_) | exact H
  have Ny369 := Aside0.mk hy369
  clear hy369
  replace H := Option.bind_eq_some_iff.mp H
  obtain ⟨t372, A170, H⟩ := H
  try dsimp only at H
  have A17 := Aside0.mk A170
  clear A170
  by_cases c18 : y369.length + t372.length < 17592186044416
  rotate_left
  ·exact nomatch (if_neg c18).symm.trans H
  rw [if_pos c18] at H
  have LMc18 := Aside0.mk c18
  clear c18
  obtain ⟨y375, hy375⟩ : ∃ y_ : List Int, y_ = (y369 ++ t372) := ⟨_, rfl⟩
  replace H : ((burinref04_cyrillic.f).bind fun t378 => (if y375.length + t378.length < 17592186044416 then (some ((y375 ++ t378), true)) else (none))) = some (r1, r2) := by first | (rw [hy375]; with_reducible exact H) | (have H2_ := (Option.bind_some _ _).symm.trans H; rw [hy375]; with_reducible exact H2_) | exact H
  have Ny375 := Aside0.mk hy375
  clear hy375
  replace H := Option.bind_eq_some_iff.mp H
  obtain ⟨t378, A190, H⟩ := H
  try dsimp only at H
  have A19 := Aside0.mk A190
  clear A190
  by_cases c20 : y375.length + t378.length < 17592186044416
  rotate_left
  ·exact nomatch (if_neg c20).symm.trans H
  rw [if_pos c20] at H
  have LMc20 := Aside0.mk c20
  clear c20
  obtain ⟨y381, hy381⟩ : ∃ y_ : List Int, y_ = (y375 ++ t378) := ⟨_, rfl⟩
  replace H : (some (y381, true)) = some (r1, r2) := by first | (rw [hy381]; with_reducible exact H) | (have H2_ := (Option.bind_some _ _).symm.trans H; rw [hy381]; with_reducible exact H2_) | exact H
  have Ny381 := Aside0.mk hy381
  clear hy381
  simp only [Option.some.injEq, Prod.mk.injEq] at H
  obtain ⟨rfl, rfl⟩ := H
  go_enter Tryz.func63, Tryz.ntmps63
  go_wp2_with (first | ((with_reducible refine gate_callee (f := 92) rfl ?_); refine goesL_ (some 17) rfl rfl Tryz.func92 kz rfl #[] rfl mz ?_; (with_reducible refine (burinref04_capitals.calls  t357 _ A12.out).mono ?_); rintro e w21 ⟨v358, rfl, ho0, hb⟩; refine ⟨_, rfl, ?_⟩; have HO359 := Aside0.mk (Kd.R_lower ho0 (below_size bz)); replace HB := hz hb; (try clear hb); (try clear ho0)) | ((with_reducible refine gate_callee (f := 93) rfl ?_); refine goesL_ (some 18) rfl rfl Tryz.func93 kz rfl #[] rfl mz ?_; (with_reducible refine (burinref04_small.calls  t360 _ A13.out).mono ?_); rintro e w22 ⟨v361, rfl, ho0, hb⟩; refine ⟨_, rfl, ?_⟩; have HO362 := Aside0.mk (Kd.R_lower (Kd.R_new' ho0 (Kd.R_lt (rz HO359.out))) (below_size bz)); replace HO359 := Aside0.mk (Kd.R_elder' (rz HO359.out) (Kd.R_base ho0) hb); replace HB := hz hb; (try clear hb); (try clear ho0); obtain ⟨Ao24, co24, eo24⟩ := Kd.R_slice HO362.out; subst eo24) | ((with_reducible refine gate_builtin (b := .append) (xs := #[.tmp 17, .tmp 18]) rfl ?_); at_builtin; refine Kd.R_append_rows (Kd.int .i64) (w0 := w) w.heap.size rfl (.tmp 17) (.tmp 18) 57 3 (.int .i64 0) 8 rfl Tryz.underlying57 info3 rfl (by decide) (by omega) v358 t357 t360 _ _ _ (fun k_ => some k_ ≠ (.slice Ao24 t360.length co24 : Value).ownBlock) (fun _ => False) rfl rfl ?aO ?aR (fun _ _ h => h) (fun _ h => h.elim) ?aF ?aB ?aS ?aL ?_; (case aR => repeat (first | exact (Kd.R_reads' HO362.out).2.2 | (with_reducible refine Kd.C_alloc ?_ _) | (with_reducible refine Kd.C_drewN ?_ _) | (with_reducible refine Kd.C_drew ?_))); (case aB => exact bz); (case aF => exact (fun k_ hk => Kd.fresh' (Kd.R_lt (rz HO362.out)) k_ hk)); (case aO => exact (by (with_reducible repeat (first | apply Kd.R_alloc | apply Kd.R_drewN | apply Kd.R_drew)); exact Kd.R_mono HO359.out (fun _ hk => hk.2))); (case aS => exact (below_size bz)); (case aL => have := LMc14.out; omega); intro v364 w23 ho hb hg hat; rw [← Ny363.out] at ho; have n0_ := Aside0.mk (Kd.R_after (ok := (fun _ => True)) (rz HO362.out) hg hat); have n1_ := Aside0.mk (hb); have n2_ := Aside0.mk (ho); clear HO362; clear HB; clear HO359; have HO362 := n0_; have HB := n1_; have HO365 := n2_; clear n0_ n1_ n2_; clear ho hb hg hat) | ((with_reducible refine gate_callee (f := 94) rfl ?_); refine goesL_ (some 21) rfl rfl Tryz.func94 kz rfl #[] rfl mz ?_; (with_reducible refine (burinref04_latin.calls  t366 _ A15.out).mono ?_); rintro e w25 ⟨v367, rfl, ho0, hb⟩; refine ⟨_, rfl, ?_⟩; have HO368 := Aside0.mk (Kd.R_lower (Kd.R_new' (Kd.R_new' ho0 (Kd.R_lt (rz HO362.out))) (Kd.R_lt (rz HO365.out))) (below_size bz)); replace HO362 := Aside0.mk (Kd.R_elder' (rz HO362.out) (Kd.R_base ho0) hb); replace HO365 := Aside0.mk (Kd.R_elder' (rz HO365.out) (Kd.R_base ho0) hb); replace HB := hz hb; (try clear hb); (try clear ho0); obtain ⟨Ao27, co27, eo27⟩ := Kd.R_slice HO368.out; subst eo27) | ((with_reducible refine gate_builtin (b := .append) (xs := #[.tmp 20, .tmp 21]) rfl ?_); at_builtin; refine Kd.R_append_rows (Kd.int .i64) (w0 := w) w.heap.size rfl (.tmp 20) (.tmp 21) 57 3 (.int .i64 0) 8 rfl Tryz.underlying57 info3 rfl (by decide) (by omega) v364 y363 t366 _ _ _ (fun k_ => some k_ ≠ (.slice Ao24 t360.length co24 : Value).ownBlock ∧ some k_ ≠ (.slice Ao27 t366.length co27 : Value).ownBlock) (fun _ => False) rfl rfl ?aO ?aR (fun _ _ h => h) (fun _ h => h.elim) ?aF ?aB ?aS ?aL ?_; (case aR => repeat (first | exact (Kd.R_reads' HO368.out).2.2 | (with_reducible refine Kd.C_alloc ?_ _) | (with_reducible refine Kd.C_drewN ?_ _) | (with_reducible refine Kd.C_drew ?_))); (case aB => exact bz); (case aF => exact (fun k_ hk => ⟨Kd.fresh' (Kd.R_lt (rz HO362.out)) k_ hk, Kd.fresh' (Kd.R_lt (rz HO368.out)) k_ hk⟩)); (case aO => exact (rz HO365.out)); (case aS => exact (below_size bz)); (case aL => have := LMc16.out; omega); intro v370 w26 ho hb hg hat; rw [← Ny369.out] at ho; have n0_ := Aside0.mk (Kd.R_after (ok := (fun k_ => some k_ ≠ (.slice Ao27 t366.length co27 : Value).ownBlock)) (by (with_reducible repeat (first | apply Kd.R_alloc | apply Kd.R_drewN | apply Kd.R_drew)); exact Kd.R_mono HO362.out (fun _ hk => ⟨hk.2, hk.1.2⟩)) hg hat); have n1_ := Aside0.mk (Kd.R_after (ok := (fun k_ => some k_ ≠ (.slice Ao24 t360.length co24 : Value).ownBlock)) (by (with_reducible repeat (first | apply Kd.R_alloc | apply Kd.R_drewN | apply Kd.R_drew)); exact Kd.R_mono HO368.out (fun _ hk => ⟨hk.1.2, hk.2⟩)) hg hat); have n2_ := Aside0.mk (hb); have n3_ := Aside0.mk (ho); clear HO362; clear HO368; clear HB; clear HO365; have HO362 := n0_; have HO368 := n1_; have HB := n2_; have HO371 := n3_; clear n0_ n1_ n2_ n3_; clear ho hb hg hat) | ((with_reducible refine gate_callee (f := 91) rfl ?_); refine goesL_ (some 24) rfl rfl Tryz.func91 kz rfl #[] rfl mz ?_; (with_reducible refine (burinref04_greek.calls  t372 _ A17.out).mono ?_); rintro e w28 ⟨v373, rfl, ho0, hb⟩; refine ⟨_, rfl, ?_⟩; have HO374 := Aside0.mk (Kd.R_lower (Kd.R_new' (Kd.R_new' (Kd.R_new' ho0 (Kd.R_lt (rz HO362.out))) (Kd.R_lt (rz HO368.out))) (Kd.R_lt (rz HO371.out))) (below_size bz)); replace HO362 := Aside0.mk (Kd.R_elder' (rz HO362.out) (Kd.R_base ho0) hb); replace HO368 := Aside0.mk (Kd.R_elder' (rz HO368.out) (Kd.R_base ho0) hb); replace HO371 := Aside0.mk (Kd.R_elder' (rz HO371.out) (Kd.R_base ho0) hb); replace HB := hz hb; (try clear hb); (try clear ho0); obtain ⟨Ao30, co30, eo30⟩ := Kd.R_slice HO374.out; subst eo30) | ((with_reducible refine gate_builtin (b := .append) (xs := #[.tmp 23, .tmp 24]) rfl ?_); at_builtin; refine Kd.R_append_rows (Kd.int .i64) (w0 := w) w.heap.size rfl (.tmp 23) (.tmp 24) 57 3 (.int .i64 0) 8 rfl Tryz.underlying57 info3 rfl (by decide) (by omega) v370 y369 t372 _ _ _ (fun k_ => some k_ ≠ (.slice Ao24 t360.length co24 : Value).ownBlock ∧ some k_ ≠ (.slice Ao27 t366.length co27 : Value).ownBlock ∧ some k_ ≠ (.slice Ao30 t372.length co30 : Value).ownBlock) (fun _ => False) rfl rfl ?aO ?aR (fun _ _ h => h) (fun _ h => h.elim) ?aF ?aB ?aS ?aL ?_; (case aR => repeat (first | exact (Kd.R_reads' HO374.out).2.2 | (with_reducible refine Kd.C_alloc ?_ _) | (with_reducible refine Kd.C_drewN ?_ _) | (with_reducible refine Kd.C_drew ?_))); (case aB => exact bz); (case aF => exact (fun k_ hk => ⟨Kd.fresh' (Kd.R_lt (rz HO362.out)) k_ hk, Kd.fresh' (Kd.R_lt (rz HO368.out)) k_ hk, Kd.fresh' (Kd.R_lt (rz HO374.out)) k_ hk⟩)); (case aO => exact (by (with_reducible repeat (first | apply Kd.R_alloc | apply Kd.R_drewN | apply Kd.R_drew)); exact Kd.R_mono HO371.out (fun _ hk => ⟨hk.1.1, ⟨hk.1.2, hk.2⟩⟩))); (case aS => exact (below_size bz)); (case aL => have := LMc18.out; omega); intro v376 w29 ho hb hg hat; rw [← Ny375.out] at ho; have n0_ := Aside0.mk (Kd.R_after (ok := (fun k_ => some k_ ≠ (.slice Ao27 t366.length co27 : Value).ownBlock ∧ some k_ ≠ (.slice Ao30 t372.length co30 : Value).ownBlock)) (by (with_reducible repeat (first | apply Kd.R_alloc | apply Kd.R_drewN | apply Kd.R_drew)); exact Kd.R_mono HO362.out (fun _ hk => ⟨⟨hk.1.1, hk.2⟩, hk.1.2⟩)) hg hat); have n1_ := Aside0.mk (Kd.R_after (ok := (fun k_ => some k_ ≠ (.slice Ao24 t360.length co24 : Value).ownBlock ∧ some k_ ≠ (.slice Ao30 t372.length co30 : Value).ownBlock)) (by (with_reducible repeat (first | apply Kd.R_alloc | apply Kd.R_drewN | apply Kd.R_drew)); exact Kd.R_mono HO368.out (fun _ hk => ⟨⟨hk.1.1, hk.2⟩, hk.1.2⟩)) hg hat); have n2_ := Aside0.mk (Kd.R_after (ok := (fun k_ => some k_ ≠ (.slice Ao24 t360.length co24 : Value).ownBlock ∧ some k_ ≠ (.slice Ao27 t366.length co27 : Value).ownBlock)) (by (with_reducible repeat (first | apply Kd.R_alloc | apply Kd.R_drewN | apply Kd.R_drew)); exact Kd.R_mono HO374.out (fun _ hk => ⟨⟨hk.1.1.2, hk.1.2⟩, hk.2⟩)) hg hat); have n3_ := Aside0.mk (hb); have n4_ := Aside0.mk (ho); clear HO362; clear HO368; clear HO374; clear HB; clear HO371; have HO362 := n0_; have HO368 := n1_; have HO374 := n2_; have HB := n3_; have HO377 := n4_; clear n0_ n1_ n2_ n3_ n4_; clear ho hb hg hat) | ((with_reducible refine gate_callee (f := 90) rfl ?_); refine goesL_ (some 27) rfl rfl Tryz.func90 kz rfl #[] rfl mz ?_; (with_reducible refine (burinref04_cyrillic.calls  t378 _ A19.out).mono ?_); rintro e w31 ⟨v379, rfl, ho0, hb⟩; refine ⟨_, rfl, ?_⟩; have HO380 := Aside0.mk (Kd.R_lower (Kd.R_new' (Kd.R_new' (Kd.R_new' (Kd.R_new' ho0 (Kd.R_lt (rz HO362.out))) (Kd.R_lt (rz HO368.out))) (Kd.R_lt (rz HO374.out))) (Kd.R_lt (rz HO377.out))) (below_size bz)); replace HO362 := Aside0.mk (Kd.R_elder' (rz HO362.out) (Kd.R_base ho0) hb); replace HO368 := Aside0.mk (Kd.R_elder' (rz HO368.out) (Kd.R_base ho0) hb); replace HO374 := Aside0.mk (Kd.R_elder' (rz HO374.out) (Kd.R_base ho0) hb); replace HO377 := Aside0.mk (Kd.R_elder' (rz HO377.out) (Kd.R_base ho0) hb); replace HB := hz hb; (try clear hb); (try clear ho0); obtain ⟨Ao33, co33, eo33⟩ := Kd.R_slice HO380.out; subst eo33) | ((with_reducible refine gate_builtin (b := .append) (xs := #[.tmp 26, .tmp 27]) rfl ?_); at_builtin; refine Kd.R_append_rows (Kd.int .i64) (w0 := w) w.heap.size rfl (.tmp 26) (.tmp 27) 57 3 (.int .i64 0) 8 rfl Tryz.underlying57 info3 rfl (by decide) (by omega) v376 y375 t378 _ _ _ (fun k_ => some k_ ≠ (.slice Ao24 t360.length co24 : Value).ownBlock ∧ some k_ ≠ (.slice Ao27 t366.length co27 : Value).ownBlock ∧ some k_ ≠ (.slice Ao30 t372.length co30 : Value).ownBlock ∧ some k_ ≠ (.slice Ao33 t378.length co33 : Value).ownBlock) (fun _ => False) rfl rfl ?aO ?aR (fun _ _ h => h) (fun _ h => h.elim) ?aF ?aB ?aS ?aL ?_; (case aR => repeat (first | exact (Kd.R_reads' HO380.out).2.2 | (with_reducible refine Kd.C_alloc ?_ _) | (with_reducible refine Kd.C_drewN ?_ _) | (with_reducible refine Kd.C_drew ?_))); (case aB => exact bz); (case aF => exact (fun k_ hk => ⟨Kd.fresh' (Kd.R_lt (rz HO362.out)) k_ hk, Kd.fresh' (Kd.R_lt (rz HO368.out)) k_ hk, Kd.fresh' (Kd.R_lt (rz HO374.out)) k_ hk, Kd.fresh' (Kd.R_lt (rz HO380.out)) k_ hk⟩)); (case aO => exact (by (with_reducible repeat (first | apply Kd.R_alloc | apply Kd.R_drewN | apply Kd.R_drew)); exact Kd.R_mono HO377.out (fun _ hk => ⟨hk.1.1, ⟨hk.1.2.1, ⟨hk.1.2.2, hk.2⟩⟩⟩))); (case aS => exact (below_size bz)); (case aL => have := LMc20.out; omega); intro v382 w32 ho hb hg hat; rw [← Ny381.out] at ho; have n0_ := Aside0.mk (Kd.R_after (ok := (fun k_ => some k_ ≠ (.slice Ao27 t366.length co27 : Value).ownBlock ∧ some k_ ≠ (.slice Ao30 t372.length co30 : Value).ownBlock ∧ some k_ ≠ (.slice Ao33 t378.length co33 : Value).ownBlock)) (by (with_reducible repeat (first | apply Kd.R_alloc | apply Kd.R_drewN | apply Kd.R_drew)); exact Kd.R_mono HO362.out (fun _ hk => ⟨⟨hk.1.1.1, ⟨hk.1.1.2, hk.2⟩⟩, hk.1.2⟩)) hg hat); have n1_ := Aside0.mk (Kd.R_after (ok := (fun k_ => some k_ ≠ (.slice Ao24 t360.length co24 : Value).ownBlock ∧ some k_ ≠ (.slice Ao30 t372.length co30 : Value).ownBlock ∧ some k_ ≠ (.slice Ao33 t378.length co33 : Value).ownBlock)) (by (with_reducible repeat (first | apply Kd.R_alloc | apply Kd.R_drewN | apply Kd.R_drew)); exact Kd.R_mono HO368.out (fun _ hk => ⟨⟨hk.1.1.1, ⟨hk.1.1.2, hk.2⟩⟩, hk.1.2⟩)) hg hat); have n2_ := Aside0.mk (Kd.R_after (ok := (fun k_ => some k_ ≠ (.slice Ao24 t360.length co24 : Value).ownBlock ∧ some k_ ≠ (.slice Ao27 t366.length co27 : Value).ownBlock ∧ some k_ ≠ (.slice Ao33 t378.length co33 : Value).ownBlock)) (by (with_reducible repeat (first | apply Kd.R_alloc | apply Kd.R_drewN | apply Kd.R_drew)); exact Kd.R_mono HO374.out (fun _ hk => ⟨⟨hk.1.1.1, ⟨hk.1.1.2, hk.2⟩⟩, hk.1.2⟩)) hg hat); have n3_ := Aside0.mk (Kd.R_after (ok := (fun k_ => some k_ ≠ (.slice Ao24 t360.length co24 : Value).ownBlock ∧ some k_ ≠ (.slice Ao27 t366.length co27 : Value).ownBlock ∧ some k_ ≠ (.slice Ao30 t372.length co30 : Value).ownBlock)) (by (with_reducible repeat (first | apply Kd.R_alloc | apply Kd.R_drewN | apply Kd.R_drew)); exact Kd.R_mono HO380.out (fun _ hk => ⟨⟨hk.1.1.1.2, ⟨hk.1.1.2, hk.1.2⟩⟩, hk.2⟩)) hg hat); have n4_ := Aside0.mk (hb); have n5_ := Aside0.mk (ho); clear HO362; clear HO368; clear HO374; clear HO380; clear HB; clear HO377; have HO362 := n0_; have HO368 := n1_; have HO374 := n2_; have HO380 := n3_; have HB := n4_; have HO383 := n5_; clear n0_ n1_ n2_ n3_ n4_ n5_; clear ho hb hg hat))
  go_ret2
  exact ⟨_, fz, rz (R_all HO383.out), bz⟩
 rw [if_neg c11] at H
 have c11b0 := beq_eq_false_iff_ne.mpr c11
 have c11b1 := bne_iff_ne.mpr c11
 by_cases c34 : a0.toList = ([76, 97, 116, 105, 110] : List UInt8)
 ·rw [if_pos c34] at H
  have c34b0 := beq_iff_eq.mpr c34
  have c34b1 := bne_eq_false_iff_eq.mpr c34
  clear c34
  replace H := Option.bind_eq_some_iff.mp H
  obtain ⟨t384, A350, H⟩ := H
  try dsimp only at H
  have A35 := Aside0.mk A350
  clear A350
  simp only [Option.some.injEq, Prod.mk.injEq] at H
  obtain ⟨rfl, rfl⟩ := H
  go_enter Tryz.func63, Tryz.ntmps63
  go_wp2_with (first | ((with_reducible refine gate_callee (f := 94) rfl ?_); refine goesL_ (some 32) rfl rfl Tryz.func94 kz rfl #[] rfl mz ?_; (with_reducible refine (burinref04_latin.calls  t384 _ A35.out).mono ?_); rintro e w36 ⟨v385, rfl, ho0, hb⟩; refine ⟨_, rfl, ?_⟩; have HO386 := Aside0.mk (Kd.R_lower ho0 (below_size bz)); replace HB := hz hb; (try clear hb); (try clear ho0)))
  go_ret2
  exact ⟨_, fz, rz HO386.out, bz⟩
 rw [if_neg c34] at H
 have c34b0 := beq_eq_false_iff_ne.mpr c34
 have c34b1 := bne_iff_ne.mpr c34
 by_cases c37 : a0.toList = ([76, 108] : List UInt8)
 ·rw [if_pos c37] at H
  have c37b0 := beq_iff_eq.mpr c37
  have c37b1 := bne_eq_false_iff_eq.mpr c37
  clear c37
  replace H := Option.bind_eq_some_iff.mp H
  obtain ⟨t387, A380, H⟩ := H
  try dsimp only at H
  have A38 := Aside0.mk A380
  clear A380
  simp only [Option.some.injEq, Prod.mk.injEq] at H
  obtain ⟨rfl, rfl⟩ := H
  go_enter Tryz.func63, Tryz.ntmps63
  go_wp2_with (first | ((with_reducible refine gate_callee (f := 93) rfl ?_); refine goesL_ (some 35) rfl rfl Tryz.func93 kz rfl #[] rfl mz ?_; (with_reducible refine (burinref04_small.calls  t387 _ A38.out).mono ?_); rintro e w39 ⟨v388, rfl, ho0, hb⟩; refine ⟨_, rfl, ?_⟩; have HO389 := Aside0.mk (Kd.R_lower ho0 (below_size bz)); replace HB := hz hb; (try clear hb); (try clear ho0)))
  go_ret2
  exact ⟨_, fz, rz HO389.out, bz⟩
 rw [if_neg c37] at H
 have c37b0 := beq_eq_false_iff_ne.mpr c37
 have c37b1 := bne_iff_ne.mpr c37
 by_cases c40 : a0.toList = ([76, 117] : List UInt8)
 ·rw [if_pos c40] at H
  have c40b0 := beq_iff_eq.mpr c40
  have c40b1 := bne_eq_false_iff_eq.mpr c40
  clear c40
  replace H := Option.bind_eq_some_iff.mp H
  obtain ⟨t390, A410, H⟩ := H
  try dsimp only at H
  have A41 := Aside0.mk A410
  clear A410
  simp only [Option.some.injEq, Prod.mk.injEq] at H
  obtain ⟨rfl, rfl⟩ := H
  go_enter Tryz.func63, Tryz.ntmps63
  go_wp2_with (first | ((with_reducible refine gate_callee (f := 92) rfl ?_); refine goesL_ (some 38) rfl rfl Tryz.func92 kz rfl #[] rfl mz ?_; (with_reducible refine (burinref04_capitals.calls  t390 _ A41.out).mono ?_); rintro e w42 ⟨v391, rfl, ho0, hb⟩; refine ⟨_, rfl, ?_⟩; have HO392 := Aside0.mk (Kd.R_lower ho0 (below_size bz)); replace HB := hz hb; (try clear hb); (try clear ho0)))
  go_ret2
  exact ⟨_, fz, rz HO392.out, bz⟩
 rw [if_neg c40] at H
 have c40b0 := beq_eq_false_iff_ne.mpr c40
 have c40b1 := bne_iff_ne.mpr c40
 by_cases c43 : a0.toList = ([78, 100] : List UInt8)
 ·rw [if_pos c43] at H
  have c43b0 := beq_iff_eq.mpr c43
  have c43b1 := bne_eq_false_iff_eq.mpr c43
  clear c43
  obtain ⟨y393, hy393⟩ : ∃ y_ : List Int, y_ = (([48, 57, 1632, 1641, 1776, 1785, 2406, 2415] : List Int)) := ⟨_, rfl⟩
  rw [← hy393] at H
  try rw [Option.bind_some] at H
  have Ny393 := Aside0.mk hy393
  clear hy393
  simp only [Option.some.injEq, Prod.mk.injEq] at H
  obtain ⟨rfl, rfl⟩ := H
  go_enter Tryz.func63, Tryz.ntmps63
  go_wp2_with (first | ((with_reducible refine gate_dst (N := 41) rfl ?_); refine Kd.R_lit (Kd.int .i64) _ 3 ?hg (N := 41) ?hd (xs := ([48, 57, 1632, 1641, 1776, 1785, 2406, 2415] : List Int)) (inner := [.int .i64 48, .int .i64 57, .int .i64 1632, .int .i64 1641, .int .i64 1776, .int .i64 1785, .int .i64 2406, .int .i64 2415]) (ok := fun _ => True) (okp := fun _ => True) ?hr ?hp (fun _ hk => hk) trivial (Below.refl _ _) (Nat.le_refl _) (by simp) ?_; (case hd => rfl); (case hg => rfl); (case hr => first | (go_simp; done) | (go_simp; rfl)); (case hp => exact (Reps.one rfl (Reps.one rfl (Reps.one rfl (Reps.one rfl (Reps.one rfl (Reps.one rfl (Reps.one rfl (Reps.one rfl (Reps.none _ _)))))))))); intro v394 w44 ho45 hb hg_ hnew_; clear hg_ hnew_; (first | rw [← Ny393.out] at ho45 | (simp only [Int.reduceToNat] at ho45; rw [← Ny393.out] at ho45)); have HO395 := Aside0.mk (Kd.R_lower ho45 (below_size bz)); replace HB := hz hb; clear hb ho45))
  go_ret2
  exact ⟨_, fz, rz HO395.out, bz⟩
 rw [if_neg c43] at H
 have c43b0 := beq_eq_false_iff_ne.mpr c43
 have c43b1 := bne_iff_ne.mpr c43
 simp only [Option.some.injEq, Prod.mk.injEq] at H
 obtain ⟨rfl, rfl⟩ := H
 go_enter Tryz.func63, Tryz.ntmps63
 go_wp2
 go_ret2
 exact ⟨_, fz, by first | exact Kd.R_nil _ _ _ _ _ | exact Kd.N_nil _ _ _ _ _ | exact Kd.V_nil _ _ _ _ _ | exact Kd.Q_nil _ _ _ _ _ | exact Kd.S_nil _ _ _ _ _, bz⟩
def burinref04_Property.f (k : Nat) (a0 : ByteArray) : Option ((List (S36)) × Int) := (burinref04_bare.f a0).bind fun bt396 => ((burinref04_property.f bt396.1).bind fun bt398 => (if bt398.2 = true then (if bt396.2 = true then ((burinref04_list.f k bt398.1).bind fun t402 => ((burinref02_Not.f k t402).bind fun t405 => (some (t405, 0)))) else ((burinref04_list.f k bt398.1).bind fun t408 => (some (t408, 0)))) else (some (([] : List (S36)), 70))))
set_option maxHeartbeats 8000000 in
set_option maxRecDepth 100000 in
theorem burinref04_Property.calls (k : Nat) (a0 : ByteArray) (r1 : List (S36)) (r2 : Int) (w : World) (h : burinref04_Property.f k a0 = some (r1, r2)) :
  Calls Tryz.prog 33 #[.string a0] w fun e w' => ∃ v0_ : Value, e = .returned (.tuple #[v0_, .int .i64 r2]) ∧ Kd.R k36 36 w' w.heap.size (fun _ => True) v0_ r1 ∧ Below w.heap.size w w' := by
 have HB := Aside0.mk (Below.refl w.heap.size w)
 have H : ((burinref04_bare.f a0).bind fun bt396 => ((burinref04_property.f bt396.1).bind fun bt398 => (if bt398.2 = true then (if bt396.2 = true then ((burinref04_list.f k bt398.1).bind fun t402 => ((burinref02_Not.f k t402).bind fun t405 => (some (t405, 0)))) else ((burinref04_list.f k bt398.1).bind fun t408 => (some (t408, 0)))) else (some (([] : List (S36)), 70))))) = some (r1, r2) := h
 clear h
 replace H := Option.bind_eq_some_iff.mp H
 obtain ⟨⟨t396, t397⟩, A20, H⟩ := H
 try dsimp only at H
 have A2 := Aside0.mk A20
 clear A20
 replace H := Option.bind_eq_some_iff.mp H
 obtain ⟨⟨t398, t399⟩, A30, H⟩ := H
 try dsimp only at H
 have A3 := Aside0.mk A30
 clear A30
 by_cases c4 : t399 = true
 ·subst c4
  rw [if_pos rfl] at H
  by_cases c5 : t397 = true
  ·subst c5
   rw [if_pos rfl] at H
   replace H := Option.bind_eq_some_iff.mp H
   obtain ⟨t402, A60, H⟩ := H
   try dsimp only at H
   have A6 := Aside0.mk A60
   clear A60
   replace H := Option.bind_eq_some_iff.mp H
   obtain ⟨t405, A70, H⟩ := H
   try dsimp only at H
   have A7 := Aside0.mk A70
   clear A70
   simp only [Option.some.injEq, Prod.mk.injEq] at H
   obtain ⟨rfl, rfl⟩ := H
   go_enter Tryz.func33, Tryz.ntmps33
   go_wp2_with (first | ((with_reducible refine gate_callee (f := 62) rfl ?_); refine goesL_ (some 10) rfl rfl Tryz.func62 kz rfl #[.string a0] rfl mz ?_; (with_reducible refine (burinref04_bare.calls a0 t396 true _ A2.out).mono ?_); rintro e w' ⟨rfl, ⟨nd, rfl⟩⟩; refine ⟨_, rfl, ?_⟩) | ((with_reducible refine gate_callee (f := 63) rfl ?_); refine goesL_ (some 15) rfl rfl Tryz.func63 kz rfl #[.string t396] rfl mz ?_; (with_reducible refine (burinref04_property.calls t396 t398 true _ A3.out).mono ?_); rintro e w8 ⟨v400, rfl, ho0, hb⟩; refine ⟨_, rfl, ?_⟩; have HO401 := Aside0.mk (Kd.R_lower ho0 (below_size bz)); replace HB := hz hb; (try clear hb); (try clear ho0); obtain ⟨Ao9, co9, eo9⟩ := Kd.R_slice HO401.out; subst eo9) | ((with_reducible refine gate_callee (f := 60) rfl ?_); refine goesL_ (some 22) rfl rfl Tryz.func60 kz rfl #[.slice Ao9 t398.length co9] rfl mz ?_; (with_reducible refine (burinref04_list.calls k _ _ t398 t402 _ ?side1 ?side2 A6.out).mono ?_); (case side1 => exact cz (Kd.R_reads' HO401.out).2.2); (case side2 => exact (Kd.R_reads' HO401.out).2.1); rintro e w10 ⟨v403, rfl, ho0, hb⟩; refine ⟨_, rfl, ?_⟩; have HO404 := Aside0.mk (Kd.R_lower ho0 (below_size bz)); replace HO401 := Aside0.mk (Kd.R_below (rz HO401.out) hb); replace HB := hz hb; (try clear hb); (try clear ho0); obtain ⟨Ao11, co11, eo11⟩ := Kd.R_slice HO404.out; subst eo11) | ((with_reducible refine gate_callee (f := 34) rfl ?_); refine goesL_ (some 23) rfl rfl Tryz.func34 kz rfl #[.slice Ao11 t402.length co11] rfl mz ?_; (with_reducible refine (burinref02_Not.calls k _ _ t402 t405 _ ?side1 ?side2 A7.out).mono ?_); (case side1 => exact cz (Kd.R_reads' HO404.out).2.2); (case side2 => exact (Kd.R_reads' HO404.out).2.1); rintro e w12 ⟨v406, rfl, ho0, hb⟩; refine ⟨_, rfl, ?_⟩; have HO407 := Aside0.mk (Kd.R_lower (Kd.R_new' ho0 (Kd.R_lt (rz HO404.out))) (below_size bz)); replace HO401 := Aside0.mk (Kd.R_below (rz HO401.out) hb); replace HO404 := Aside0.mk (Kd.R_elder' (rz HO404.out) (Kd.R_base ho0) hb); replace HB := hz hb; (try clear hb); (try clear ho0)))
   go_ret2
   exact ⟨_, fz, rz (R_all HO407.out), bz⟩
  replace c5 := Bool.eq_false_iff.mpr c5
  subst c5
  rw [if_neg (show ¬ (false = true) by decide)] at H
  replace H := Option.bind_eq_some_iff.mp H
  obtain ⟨t408, A130, H⟩ := H
  try dsimp only at H
  have A13 := Aside0.mk A130
  clear A130
  simp only [Option.some.injEq, Prod.mk.injEq] at H
  obtain ⟨rfl, rfl⟩ := H
  go_enter Tryz.func33, Tryz.ntmps33
  go_wp2_with (first | ((with_reducible refine gate_callee (f := 62) rfl ?_); refine goesL_ (some 10) rfl rfl Tryz.func62 kz rfl #[.string a0] rfl mz ?_; (with_reducible refine (burinref04_bare.calls a0 t396 false _ A2.out).mono ?_); rintro e w' ⟨rfl, ⟨nd, rfl⟩⟩; refine ⟨_, rfl, ?_⟩) | ((with_reducible refine gate_callee (f := 63) rfl ?_); refine goesL_ (some 15) rfl rfl Tryz.func63 kz rfl #[.string t396] rfl mz ?_; (with_reducible refine (burinref04_property.calls t396 t398 true _ A3.out).mono ?_); rintro e w14 ⟨v400, rfl, ho0, hb⟩; refine ⟨_, rfl, ?_⟩; have HO401 := Aside0.mk (Kd.R_lower ho0 (below_size bz)); replace HB := hz hb; (try clear hb); (try clear ho0); obtain ⟨Ao15, co15, eo15⟩ := Kd.R_slice HO401.out; subst eo15) | ((with_reducible refine gate_callee (f := 60) rfl ?_); refine goesL_ (some 25) rfl rfl Tryz.func60 kz rfl #[.slice Ao15 t398.length co15] rfl mz ?_; (with_reducible refine (burinref04_list.calls k _ _ t398 t408 _ ?side1 ?side2 A13.out).mono ?_); (case side1 => exact cz (Kd.R_reads' HO401.out).2.2); (case side2 => exact (Kd.R_reads' HO401.out).2.1); rintro e w16 ⟨v409, rfl, ho0, hb⟩; refine ⟨_, rfl, ?_⟩; have HO410 := Aside0.mk (Kd.R_lower ho0 (below_size bz)); replace HO401 := Aside0.mk (Kd.R_below (rz HO401.out) hb); replace HB := hz hb; (try clear hb); (try clear ho0)))
  go_ret2
  exact ⟨_, fz, rz HO410.out, bz⟩
 replace c4 := Bool.eq_false_iff.mpr c4
 subst c4
 rw [if_neg (show ¬ (false = true) by decide)] at H
 simp only [Option.some.injEq, Prod.mk.injEq] at H
 obtain ⟨rfl, rfl⟩ := H
 go_enter Tryz.func33, Tryz.ntmps33
 go_wp2_with (first | ((with_reducible refine gate_callee (f := 62) rfl ?_); refine goesL_ (some 10) rfl rfl Tryz.func62 kz rfl #[.string a0] rfl mz ?_; (with_reducible refine (burinref04_bare.calls a0 t396 t397 _ A2.out).mono ?_); rintro e w' ⟨rfl, ⟨nd, rfl⟩⟩; refine ⟨_, rfl, ?_⟩) | ((with_reducible refine gate_callee (f := 63) rfl ?_); refine goesL_ (some 15) rfl rfl Tryz.func63 kz rfl #[.string t396] rfl mz ?_; (with_reducible refine (burinref04_property.calls t396 t398 false _ A3.out).mono ?_); rintro e w17 ⟨v400, rfl, ho0, hb⟩; refine ⟨_, rfl, ?_⟩; have HO401 := Aside0.mk (Kd.R_lower ho0 (below_size bz)); replace HB := hz hb; (try clear hb); (try clear ho0)))
 go_ret2
 exact ⟨_, fz, by first | exact Kd.R_nil _ _ _ _ _ | exact Kd.N_nil _ _ _ _ _ | exact Kd.V_nil _ _ _ _ _ | exact Kd.Q_nil _ _ _ _ _ | exact Kd.S_nil _ _ _ _ _, bz⟩
end Go.Proofs.YtheheijhijeljaaGreatDoor.HBracketReads
