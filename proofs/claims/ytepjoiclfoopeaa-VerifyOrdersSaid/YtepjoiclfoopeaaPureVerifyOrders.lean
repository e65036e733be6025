/- VerifyOrders: the order has each instruction once, ahead of all that it leads to; no condition. -/
import Derived.Test.YtepjoiclfoopeaaHVerifyOrdersx3
import Derived.Test.YtepjoiclfoopeaaXVerifyMeths
import Derived.Test.YtepjoiclfoopeaaXOpenProg
namespace Go.Proofs.Ytepjoiclfoopeaa.Pure
open Go.RowKit Go.Proofs.Ytepjoiclfoopeaa.HVerifyOrders Go.Proofs.YtepjoiclfoopeaaW.PrintWords Go.Proofs.YtepjoiclfoopeaaW.PrintLast
open Go.Proofs.YtepjoiclfoopeaaX
set_option linter.unusedVariables false
set_option linter.unusedSimpArgs false
theorem back_in (l : List S33) : (l.map inOf).map (fun x : I5 => (⟨x.1, x.2.1, x.2.2.1, x.2.2.2.1, x.2.2.2.2⟩ : S33)) = l := by
  rw [List.map_map]
  exact List.map_id'' (fun x => rfl) l
def toIn (x : I5) : S33 := ⟨x.1, x.2.1, x.2.2.1, x.2.2.2.1, x.2.2.2.2⟩
theorem forth_in (l : List I5) : (l.map toIn).map inOf = l := by
  rw [List.map_map]
  exact List.map_id'' (fun x => rfl) l
theorem toCI {A : Option Addr} {l : List I5} {w : World} (h : Kd.C kIn w A l.length l) : Kd.C k33 w A (l.map toIn).length (l.map toIn) := by
  rw [List.length_map]
  exact (C_iso (d := kIn) (f := inOf)).2 (by rw [forth_in]; exact h)
theorem check_f (k : Nat) (l : List S33) (a b : Int) : prog_Check.f (k + 1) l a b = some (checkC (l.map inOf) a b) := by
  unfold prog_Check.f checkC
  rw [List.length_map]
  have hj : ∀ q : Bool, q = true → prog_Check.j0 (k + 1) q l a b = some 130 := by
    intro q hq
    simp only [prog_Check.j0]
    rw [if_pos hq]
  by_cases h1 : (l.length : Int) < 1
  · rw [if_pos h1, hj _ rfl, if_neg (by omega)]
  · by_cases h2 : (l.length : Int) > 4000
    · rw [if_neg h1, if_pos h2, hj _ rfl, if_neg (by omega)]
    · rw [if_neg h1, if_neg h2, place_f]
      simp only [Option.bind_some]
      by_cases h3 : 0 ≤ a ∧ a < 4000
      · rw [decide_eq_true h3, if_pos rfl]
        by_cases h4 : b < 0
        · rw [if_pos h4, hj _ rfl, if_neg (by omega)]
        · rw [if_neg h4]
          by_cases h5 : b > 64
          · rw [hj _ (decide_eq_true h5), if_neg (by omega)]
          · rw [decide_eq_false h5]
            simp only [prog_Check.j0]
            rw [if_neg (by decide), show ext_badInsts.f l () = some ((l.map ofIn).any fun x => !fitsB x) by unfold ext_badInsts.f; rw [if_pos (by omega)]]
            simp only [Option.bind_some]
            have e : (l.map ofIn).any (fun x => !fitsB x) = !((l.map inOf).all fitsB) := by
              rw [List.all_eq_not_any_not]
              simp
            rw [e]
            cases h6 : (l.map inOf).all fitsB
            · rw [Bool.not_false, if_pos rfl, if_neg (by simp)]
            · rw [Bool.not_true, if_neg (by decide), if_pos ⟨by omega, by omega, h3, by omega, by omega, rfl⟩]
      · rw [decide_eq_false h3, if_neg (by decide), hj _ rfl, if_neg (fun g => h3 g.2.2.1)]
theorem checkC_ok {l : List I5} {a b : Int} (h : checkC l a b = 0) : 1 ≤ l.length ∧ l.length ≤ 4000 ∧ (0 ≤ a ∧ a < 4000) ∧ 0 ≤ b ∧ b ≤ 64 ∧ l.all fitsB = true := by
  unfold checkC at h
  split at h
  · assumption
  · omega
theorem fits_xy {x : I5} (h : fitsB x = true) : (0 ≤ x.2.2.2.1 ∧ x.2.2.2.1 < 4000) ∧ (0 ≤ x.2.2.2.2 ∧ x.2.2.2.2 < 4000) := by
  unfold fitsB at h
  simp only [Bool.and_eq_true, decide_eq_true_eq] at h
  exact ⟨h.2.2.1, h.2.2.2.1⟩
theorem led_ok {l : List I5} {a b : Int} (h : checkC l a b = 0) (ht : targetsB l a = true) : ledB l = true := by
  rw [ledB_iff]
  intro x hx t htx
  have hf := List.all_eq_true.1 (checkC_ok h).2.2.2.2.2 x hx
  have hxy := fits_xy hf
  unfold targetsB at ht
  simp only [Bool.and_eq_true, Bool.not_eq_true'] at ht
  have hp : pastB l.length x = false := by
    rw [Bool.eq_false_iff]
    intro g
    rw [List.any_eq_true.2 ⟨x, hx, g⟩] at ht
    exact absurd ht.2 (by decide)
  have hlt : t < l.length := by
    unfold pastB at hp
    rw [Bool.eq_false_iff] at hp
    by_cases g : t < l.length
    · exact g
    · exact absurd (List.any_eq_true.2 ⟨t, htx, decide_eq_true (by omega)⟩) hp
  refine ⟨?_, hlt⟩
  unfold leadsV at htx
  repeat' split at htx
  all_goals simp at htx
  all_goals omega
theorem look_f (k : Nat) (l : List S33) (a b : Int) : verify_look.f (k + 1) l a b = some (lookC (l.map inOf) a b) := by
  unfold verify_look.f lookC
  rw [check_f]
  simp only [Option.bind_some]
  by_cases h0 : checkC (l.map inOf) a b = 0
  · have hk := checkC_ok h0
    rw [List.length_map] at hk
    rw [if_pos h0, if_neg (fun g => g h0), show verify_targets.f l a b = some (targetsB (l.map inOf) a) by unfold verify_targets.f; rw [if_pos (by omega)]]
    simp only [Option.bind_some]
    cases ht : targetsB (l.map inOf) a with
    | false => rw [if_neg (by decide), if_pos rfl]
    | true =>
      rw [if_pos rfl, if_neg (by decide), show verify_slots.f l a b = some (slotsB (l.map inOf) b) by unfold verify_slots.f; rw [if_pos (by omega)]]
      simp only [Option.bind_some]
      cases hs : slotsB (l.map inOf) b with
      | false => rw [if_neg (by decide), if_pos rfl]
      | true =>
        rw [if_pos rfl, if_neg (by decide), show verify_ordered.f l a b = some ((ordL (l.map inOf)).getD [], (ordL (l.map inOf)).isSome) by unfold verify_ordered.f; rw [if_pos ⟨by omega, by omega, led_ok h0 ht⟩]]
        simp only [Option.bind_some]
        cases ordL (l.map inOf) with
        | none => rw [if_neg (by simp)]
        | some o => rw [if_pos (by simp)]; rfl
  · rw [if_neg h0, if_pos h0]
    have : checkC (l.map inOf) a b = 130 := by
      unfold checkC at h0 ⊢
      split
      · rename_i g; rw [if_pos g] at h0; exact absurd rfl h0
      · rfl
    rw [this]
theorem lookAt : LookAt := by
  intro A c l a b w hC hc
  have := verify_look.calls 1 A c (l.map toIn) a b _ _ w (toCI hC) (by rw [List.length_map]; exact hc) (look_f 0 (l.map toIn) a b)
  rw [List.length_map, forth_in] at this
  exact this
theorem vcheck_at {A : Option Addr} {c : Nat} {l : List I5} {a b : Int} {w : World} (hC : Kd.C kIn w A l.length l) (hc : l.length ≤ c) : Calls Try.prog 11 #[.agg #[.slice A l.length c, .int .i64 a, .int .i64 b]] w fun e w' => e = .returned (.int .i64 (lookC l a b).2) ∧ Below w.heap.size w w' := by
  have := verify_Check.calls 1 A c (l.map toIn) a b (lookC l a b).2 w (toCI hC) (by rw [List.length_map]; exact hc) (by unfold verify_Check.f; rw [look_f, forth_in]; rfl)
  rw [List.length_map] at this
  exact this
theorem look_len {l : List I5} {a b : Int} (h : (lookC l a b).2 = 0) : checkC l a b = 0 ∧ targetsB l a = true ∧ slotsB l b = true ∧ ∃ o, ordL l = some o ∧ (lookC l a b).1 = o := by
  unfold lookC at h ⊢
  by_cases h0 : checkC l a b ≠ 0
  · rw [if_pos h0] at h; exact absurd h (by decide)
  · rw [if_neg h0] at h ⊢
    cases ht : targetsB l a with
    | false => rw [ht, if_pos rfl] at h; exact absurd h (by decide)
    | true =>
      rw [ht, if_neg (by decide)] at h
      rw [if_neg (by decide)]
      cases hs : slotsB l b with
      | false => rw [hs, if_pos rfl] at h; exact absurd h (by decide)
      | true =>
        rw [hs, if_neg (by decide)] at h
        rw [if_neg (by decide)]
        cases ho : ordL l with
        | none => rw [ho] at h; exact absurd h (by decide)
        | some o => exact ⟨by omega, rfl, rfl, o, rfl, rfl⟩
theorem new_at {A : Option Addr} {c : Nat} {l : List I5} {a b : Int} {w : World} (hC : Kd.C kIn w A l.length l) (hc : l.length ≤ c) : Calls Try.prog 8 #[.agg #[.slice A l.length c, .int .i64 a, .int .i64 b]] w (NewPost w l a b) :=
  new_any lookAt A c l a b w hC hc (fun h => (checkC_ok (look_len h).1).2.1)
theorem rows_C {W : World} {B n : Nat} {l : List I5} (h : W.heap[B]? = some (.cells (l.flatMap encInst).toArray 33 (0, 0))) (hn : l.length = n) (hm : n ≤ 4000) : Kd.C kIn W (some ⟨B, 0, none⟩) n l := by
  subst hn
  have hlen := flat_len (enc := encInst) 5 (fun _ => rfl) l
  have : Kd.R kIn 33 W 0 (fun _ => True) (.slice (some ⟨B, 0, none⟩) l.length l.length) l := (fixed_R kIn_fixed).2 ⟨fun _ _ => trivial, hlen, .inr ⟨B, l.length, _, rfl, Nat.zero_le _, h, Nat.le_refl _, by unfold maxLen; omega, by rw [List.size_toArray]; exact hlen, by rw [List.toList_toArray, ← show (l.flatMap encInst).length = l.length * kIn.sz from hlen]; exact List.take_length⟩⟩
  exact (Kd.R_reads' this).2.2
theorem sameI_l0 (s : List Int) (hn : s.length ≤ 2000000) (d : Nat) : ∀ i : Nat, i ≤ s.length → s.length - i = d → Ev (fun k => burinbook_SameInts.l0 k s s true i) true := by
  induction d with
  | zero =>
    intro i hi hd
    refine Ev.step (fun k => ?_) (Ev.now _)
    simp only [burinbook_SameInts.l0]
    rw [if_pos trivial, if_neg (by omega)]
  | succ d ih =>
    intro i hi hd
    refine Ev.step (fun k => ?_) (ih (i + 1) (by omega) (by omega))
    simp only [burinbook_SameInts.l0]
    rw [if_pos trivial, if_pos (by omega), if_pos (by omega), if_pos (by omega), wrap_v (x := (i : Int) + 1) (y := ((i + 1 : Nat) : Int)) (by omega) (by omega) (by omega)]
    simp
theorem sameI_ev (s : List Int) (hn : s.length ≤ 2000000) : Ev (fun k => burinbook_SameInts.f k s s) true := by
  have := sameI_l0 s hn _ 0 (Nat.zero_le _) rfl
  unfold burinbook_SameInts.f
  simpa using this
theorem sameI_at {A A' : Option Addr} {c c' : Nat} {s : List Int} {w : World} (hn : s.length ≤ 2000000) (h : Kd.C (Kd.int .i64) w A s.length s) (hc : s.length ≤ c) (h' : Kd.C (Kd.int .i64) w A' s.length s) (hc' : s.length ≤ c') :
    Calls Try.prog 21 #[.slice A s.length c, .slice A' s.length c'] w (fun e w' => e = .returned (.bool true) ∧ Below w.heap.size w w') := by
  obtain ⟨k, hk⟩ := Ev.rounds (sameI_ev s hn)
  exact (burinbook_SameInts.calls k A c s A' c' s true w h hc h' hc' hk).mono fun e w' ⟨he, hd⟩ => ⟨he, hd.below⟩
theorem reached_at {W : World} {g : Nat} {l : List I5} {a b : Int} {o r : List Int} (h : Ck W g l a b o) (hr : ∃ k, verify_Checked_Reached.f k (l.map toIn) a b o = some (r, a, b)) :
    Calls Try.prog 20 #[.pointer (some ⟨g, 0, none⟩)] W fun e w' => ∃ v, e = .returned v ∧ Kd.R (Kd.int .i64) 3 w' W.heap.size (fun _ => True) v r ∧ Ck w' g l a b o ∧ ∀ base, base ≤ g → base ≤ W.heap.size → Below base W w' := by
  obtain ⟨w0, A0, c0, A3, c3, h1, h2, h3, h4, h5⟩ := h
  obtain ⟨k, hk⟩ := hr
  refine (verify_Checked_Reached.calls k g (l.map toIn) a b o r a b w0 W ⟨A0, c0, A3, c3, by rw [List.length_map]; exact h1, h2, toCI h4 |> fun h => by rw [List.length_map] at h ⊢; exact h, h5⟩ h3 hk).mono fun e w' h => ?_
  obtain ⟨v, he, hR, ⟨B0, d0, B3, d3, g1, g2, g3, g4⟩, hb, hk⟩ := h
  rw [List.length_map] at g1 g3
  refine ⟨v, he, hR, ⟨w0, B0, d0, B3, d3, g1, h2, hb, ?_, g4⟩, fun base hbg hbW => ⟨hb.os.trans h3.os.symm, hb.tape.trans h3.tape.symm, hb.output.trans h3.output.symm, hk.1, fun j hj => hk.2 j (by omega) (by omega) (by simp)⟩⟩
  have := (C_iso (d := kIn) (f := inOf)).1 g3
  rwa [forth_in] at this
theorem two_loop : lookC [(2, 0, 0, 0, 1), (5, 0, 0, 0, 0)] 0 2 = ([], 151) := by decide +kernel
theorem one_fine : lookC [(1, 0, 255, 0, 0)] 0 2 = ([0], 0) := by decide +kernel
theorem one_reached : ∃ k, verify_Checked_Reached.f k ([(1, 0, 255, 0, 0)].map toIn) 0 2 [0] = some ([0], 0, 2) := ⟨6, by decide +kernel⟩
theorem al_old {w : World} {o x : Obj} {k : Nat} (h : w.heap[k]? = some x) : (w.alloc o).heap[k]? = some x := (((Below.refl _ w).alloc (Nat.le_refl _) o).block _ (blk_lt h)).trans h
theorem ints_C {W : World} {B n : Nat} {l : List Int} (h : W.heap[B]? = some (.cells (l.flatMap encInt).toArray 3 (0, 0))) (hn : l.length = n) (hm : n ≤ 4000) : Kd.C (Kd.int .i64) W (some ⟨B, 0, none⟩) n l := by
  subst hn
  have hlen := flat_len (enc := encInt) 1 (fun _ => rfl) l
  have : Kd.R (Kd.int .i64) 3 W 0 (fun _ => True) (.slice (some ⟨B, 0, none⟩) l.length l.length) l := (fixed_R kI_fixed).2 ⟨fun _ _ => trivial, hlen, .inr ⟨B, l.length, _, rfl, Nat.zero_le _, h, Nat.le_refl _, by unfold maxLen; omega, by rw [List.size_toArray]; exact hlen, by rw [List.toList_toArray, ← show (l.flatMap encInt).length = l.length * kI.sz from hlen]; exact List.take_length⟩⟩
  exact (Kd.R_reads' this).2.2
set_option maxHeartbeats 4000000 in
set_option maxRecDepth 100000 in
theorem works_at (w : World) : Calls Try.prog 7 #[] w (fun e w' => e = .returned (.bool true) ∧ Below w.heap.size w w') := by
  have b1 : ∀ W, (Instr.build 33 #[(0, .int .i64 2), (3, .int .i64 0), (4, .int .i64 1)]).run Try.prog W = .ok (.agg #[.int .i64 2, .int .i64 0, .int .i64 0, .int .i64 0, .int .i64 1]) W := fun W => run_build W 33 _ _ (by kernel_rfl)
  have b2 : ∀ W, (Instr.build 33 #[(0, .int .i64 5)]).run Try.prog W = .ok (.agg #[.int .i64 5, .int .i64 0, .int .i64 0, .int .i64 0, .int .i64 0]) W := fun W => run_build W 33 _ _ (by kernel_rfl)
  have b3 : ∀ W, (Instr.build 33 #[(0, .int .i64 1), (2, .int .i64 255)]).run Try.prog W = .ok (.agg #[.int .i64 1, .int .i64 0, .int .i64 255, .int .i64 0, .int .i64 0]) W := fun W => run_build W 33 _ _ (by kernel_rfl)
  have b4 : ∀ W v, (Instr.build 24 #[(2, .int .i64 2), (0, .slice (some v) 2 2)]).run Try.prog W = .ok (.agg #[.slice (some v) 2 2, .int .i64 0, .int .i64 2]) W := fun W v => run_build W 24 _ _ (by kernel_rfl)
  have b5 : ∀ W v, (Instr.build 24 #[(2, .int .i64 2), (0, .slice (some v) 1 1)]).run Try.prog W = .ok (.agg #[.slice (some v) 1 1, .int .i64 0, .int .i64 2]) W := fun W v => run_build W 24 _ _ (by kernel_rfl)
  go_enter Try.func7, Try.ntmps7
  go_wp2_with fail
  generalize hw4 : (((w.alloc (.cells #[.int .i64 2, .int .i64 0, .int .i64 0, .int .i64 0, .int .i64 1, .int .i64 5, .int .i64 0, .int .i64 0, .int .i64 0, .int .i64 0] 33)).alloc (.cells #[.slice (some ⟨w.heap.size, 0, none⟩) 2 2, .int .i64 0, .int .i64 2] 24)).alloc (.cells #[.int .i64 1, .int .i64 0, .int .i64 255, .int .i64 0, .int .i64 0] 33)).alloc (.cells #[.slice (some ⟨w.heap.size + 1 + 1, 0, none⟩) 1 1, .int .i64 0, .int .i64 2] 24) = w4
  have hB : Below w.heap.size w w4 := by
    rw [← hw4]
    exact ((((Below.refl _ w).alloc (Nat.le_refl _) _).alloc (by simp) _).alloc (by simp; omega) _).alloc (by simp; omega) _
  have h0 : w4.heap[w.heap.size]? = some (.cells #[.int .i64 2, .int .i64 0, .int .i64 0, .int .i64 0, .int .i64 1, .int .i64 5, .int .i64 0, .int .i64 0, .int .i64 0, .int .i64 0] 33 (0, 0)) := by
    rw [← hw4]
    exact al_old (al_old (al_old (heap_alloc_last w _)))
  have h1 : w4.heap[w.heap.size + 1]? = some (.cells #[.slice (some ⟨w.heap.size, 0, none⟩) 2 2, .int .i64 0, .int .i64 2] 24 (0, 0)) := by
    rw [← hw4]
    exact al_old (al_old (heap_at (by simp)))
  have h2 : w4.heap[w.heap.size + 1 + 1]? = some (.cells #[.int .i64 1, .int .i64 0, .int .i64 255, .int .i64 0, .int .i64 0] 33 (0, 0)) := by
    rw [← hw4]
    exact al_old (heap_at (by simp))
  have HN := Aside0.mk (new_at (l := [(1, 0, 255, 0, 0)]) (a := 0) (b := 2) (c := 1) (rows_C (n := 1) h2 rfl (by decide)) (by decide))
  have HB := Aside0.mk hB
  have H0 := Aside0.mk h0
  have H1 := Aside0.mk h1
  clear hB h0 h1 h2 hw4 b1 b2 b3 b4 b5
  refine HN.out.mono ?_
  rintro e w5 hpost
  rcases hpost with ⟨hne, _⟩ | ⟨_, g, rfl, hg, hck, hb5⟩
  · exact absurd (by rw [one_fine]) hne
  rw [one_fine] at hck
  have HK := Aside0.mk hck
  have HB5 := Aside0.mk (HB.out.trans (hb5.mono HB.out.size))
  have HG := Aside0.mk (show w.heap.size ≤ g from Nat.le_trans HB.out.size hg)
  have k0 : w5.cell? ⟨w.heap.size + 1, 0, none⟩ = some (.slice (some ⟨w.heap.size, 0, none⟩) 2 2) := (hb5.cell (p := ⟨w.heap.size + 1, 0, none⟩) (blk_lt H1.out)).trans ((blk_cell H1.out 0).trans rfl)
  have k1 : w5.cell? ⟨w.heap.size + 1, 1, none⟩ = some (.int .i64 0) := (hb5.cell (p := ⟨w.heap.size + 1, 1, none⟩) (blk_lt H1.out)).trans ((blk_cell H1.out 1).trans rfl)
  have k2 : w5.cell? ⟨w.heap.size + 1, 2, none⟩ = some (.int .i64 2) := (hb5.cell (p := ⟨w.heap.size + 1, 2, none⟩) (blk_lt H1.out)).trans ((blk_cell H1.out 2).trans rfl)
  have HC := Aside0.mk (vcheck_at (w := w5) (l := [(2, 0, 0, 0, 1), (5, 0, 0, 0, 0)]) (a := 0) (b := 2) (c := 2) (rows_C (n := 2) ((hb5.block _ (blk_lt H0.out)).trans H0.out) rfl (by decide)) (by decide))
  rw [two_loop] at HC
  clear hck hb5 hg HN HB
  go_wp2_with fail
  refine HC.out.mono ?_
  rintro e w6 ⟨rfl, hb6⟩
  have HK6 := Aside0.mk (HK.out.step hb6)
  have HB6 := Aside0.mk (HB5.out.trans (hb6.mono HB5.out.size))
  clear hb6 HK HB5 HC k0 k1 k2
  go_wp2_with fail
  refine (len_at HK6.out).mono ?_
  rintro e w' ⟨rfl, rfl⟩
  go_wp2_with fail
  refine (slots_at HK6.out).mono ?_
  rintro e w' ⟨rfl, rfl⟩
  go_wp2_with fail
  refine (order_at HK6.out (by decide)).mono ?_
  rintro e w7 ⟨v7, rfl, hR7, hb7⟩
  obtain ⟨A7, c7, rfl⟩ := Kd.R_slice hR7
  have HR7 := Aside0.mk hR7
  have HK7 := Aside0.mk (HK6.out.step hb7)
  have HB7 := Aside0.mk (HB6.out.trans (hb7.mono HB6.out.size))
  clear hR7 hb7 HK6 HB6
  go_wp2_with fail
  have hal := heap_alloc_last w7 (.cells #[.int .i64 0] 3)
  have hab := (Below.refl _ w7).alloc (Nat.le_refl _) (.cells #[.int .i64 0] 3)
  refine (sameI_at (s := [0]) (by decide) (Kd.C_below (Kd.R_reads' HR7.out).2.2 hab) (Kd.R_reads' HR7.out).2.1 (ints_C (n := 1) (l := [0]) hal rfl (by decide)) (by decide)).mono ?_
  rintro e w8 ⟨rfl, hb8⟩
  have hb78 := hab.trans (hb8.mono hab.size)
  have HK8 := Aside0.mk (HK7.out.step hb78)
  have HB8 := Aside0.mk (HB7.out.trans (hb78.mono HB7.out.size))
  clear hb8 hab hal hb78 HK7 HB7 HR7
  go_wp2_with fail
  refine (reached_at HK8.out one_reached).mono ?_
  rintro e w9 ⟨v9, rfl, hR9, _, hb9⟩
  obtain ⟨A9, c9, rfl⟩ := Kd.R_slice hR9
  have HR9 := Aside0.mk hR9
  have HB9 := Aside0.mk (HB8.out.trans (hb9 w.heap.size HG.out HB8.out.size))
  clear hR9 hb9 HK8 HB8
  go_wp2_with fail
  have hal := heap_alloc_last w9 (.cells #[.int .i64 0] 3)
  have hab := (Below.refl _ w9).alloc (Nat.le_refl _) (.cells #[.int .i64 0] 3)
  refine (sameI_at (s := [0]) (by decide) (Kd.C_below (Kd.R_reads' HR9.out).2.2 hab) (Kd.R_reads' HR9.out).2.1 (ints_C (n := 1) (l := [0]) hal rfl (by decide)) (by decide)).mono ?_
  rintro e w10 ⟨rfl, hb10⟩
  have HB10 := Aside0.mk (HB9.out.trans ((hab.trans (hb10.mono hab.size)).mono HB9.out.size))
  clear hb10 hab hal HB9 HR9
  go_wp2
  go_ret
  exact ⟨rfl, HB10.out⟩
def mark1 (b : Bool) (st : List Bool × Bool) (t : Int) : List Bool × Bool := if b then (st.1.set t.toNat true, true) else st
def z5 : I5 := (0, 0, 0, 0, 0)
/-- One round: what is led to by what is marked. -/
def roundL (l : List I5) (at_ : List Bool) (i : Nat) : List Bool × Bool := (List.range i).foldl (fun st i => (freeN (l.getD i z5)).foldl (mark1 (at_.getD i false)) st) (List.replicate l.length false, false)
def rounds (l : List I5) : Nat → List Bool × Bool → List Bool × Bool
  | 0, s => s
  | k + 1, s => rounds l k (roundL l s.1 l.length)
theorem mark_len (b : Bool) (ts : List Int) : ∀ st : List Bool × Bool, (ts.foldl (mark1 b) st).1.length = st.1.length := by
  induction ts with
  | nil => intro st; rfl
  | cons t ts ih => intro st; rw [List.foldl_cons, ih]; unfold mark1; split <;> simp
theorem roundL_len (l : List I5) (at_ : List Bool) (i : Nat) : (roundL l at_ i).1.length = l.length := by
  unfold roundL
  induction i with
  | zero => simp
  | succ i ih => rw [List.range_succ, List.foldl_append, List.foldl_cons, List.foldl_nil, mark_len, ih]
theorem roundL_succ (l : List I5) (at_ : List Bool) (i : Nat) : roundL l at_ (i + 1) = (freeN (l.getD i z5)).foldl (mark1 (at_.getD i false)) (roundL l at_ i) := by
  unfold roundL
  rw [List.range_succ, List.foldl_append]
  rfl
theorem getD_set {α : Type} (l : List α) (i j : Nat) (v d : α) (hi : i < l.length) : (l.set i v).getD j d = if j = i then v else l.getD j d := by
  rw [List.getD_eq_getElem?_getD, List.getElem?_set, List.getD_eq_getElem?_getD]
  by_cases h : j = i
  · subst h; simp [hi]
  · rw [if_neg (fun e => h e.symm), if_neg h]
theorem mark_at (b : Bool) (ts : List Int) : ∀ (st : List Bool × Bool), (∀ t ∈ ts, 0 ≤ t ∧ t < st.1.length) → (∀ t : Nat, (ts.foldl (mark1 b) st).1.getD t false = true ↔ (st.1.getD t false = true ∨ (b = true ∧ (t : Int) ∈ ts))) ∧ ((ts.foldl (mark1 b) st).2 = true ↔ (st.2 = true ∨ (b = true ∧ ts ≠ []))) := by
  induction ts with
  | nil => intro st _; simp
  | cons x ts ih =>
    intro st h
    rw [List.foldl_cons]
    have hx := h x (by simp)
    cases b with
    | false =>
      have hm : mark1 false st x = st := rfl
      rw [hm]
      have := ih st (fun t ht => h t (by simp [ht]))
      simpa using this
    | true =>
      have hm : mark1 true st x = (st.1.set x.toNat true, true) := rfl
      rw [hm]
      have := ih (st.1.set x.toNat true, true) (fun t ht => by rw [List.length_set]; exact h t (by simp [ht]))
      refine ⟨fun t => ?_, by rw [this.2]; simp⟩
      rw [this.1 t, getD_set _ _ _ _ _ (by omega)]
      by_cases e : t = x.toNat
      · rw [if_pos e]
        have : (t : Int) = x := by omega
        simp [this]
      · rw [if_neg e]
        have : (t : Int) ≠ x := by omega
        simp [this]
def Led (l : List I5) : Prop := ∀ i, i < l.length → ∀ t ∈ freeN (l.getD i z5), 0 ≤ t ∧ t < l.length
theorem roundL_at (l : List I5) (hL : Led l) (at_ : List Bool) : ∀ i, i ≤ l.length → (∀ t : Nat, (roundL l at_ i).1.getD t false = true ↔ ∃ u, u < i ∧ at_.getD u false = true ∧ (t : Int) ∈ freeN (l.getD u z5)) ∧ ((roundL l at_ i).2 = true ↔ ∃ u, u < i ∧ at_.getD u false = true ∧ freeN (l.getD u z5) ≠ []) := by
  intro i
  induction i with
  | zero =>
    intro _
    refine ⟨fun t => ?_, ?_⟩
    · unfold roundL
      simp only [List.range_zero, List.foldl_nil]
      constructor
      · intro h
        rw [List.getD_eq_getElem?_getD, List.getElem?_replicate] at h
        split at h <;> simp at h
      · rintro ⟨u, h, _⟩; omega
    · unfold roundL
      simp only [List.range_zero, List.foldl_nil]
      constructor
      · intro h; exact absurd h (by decide)
      · rintro ⟨u, h, _⟩; omega
  | succ i ih =>
    intro hi
    have ih := ih (by omega)
    have hm := mark_at (at_.getD i false) (freeN (l.getD i z5)) (roundL l at_ i) (by rw [roundL_len]; exact hL i (by omega))
    rw [roundL_succ]
    refine ⟨fun t => ?_, ?_⟩
    · rw [hm.1 t, ih.1 t]
      constructor
      · rintro (⟨u, h1, h2, h3⟩ | ⟨h1, h2⟩)
        · exact ⟨u, by omega, h2, h3⟩
        · exact ⟨i, by omega, h1, h2⟩
      · rintro ⟨u, h1, h2, h3⟩
        by_cases e : u = i
        · subst e; exact .inr ⟨h2, h3⟩
        · exact .inl ⟨u, by omega, h2, h3⟩
    · rw [hm.2, ih.2]
      constructor
      · rintro (⟨u, h1, h2, h3⟩ | ⟨h1, h2⟩)
        · exact ⟨u, by omega, h2, h3⟩
        · exact ⟨i, by omega, h1, h2⟩
      · rintro ⟨u, h1, h2, h3⟩
        by_cases e : u = i
        · subst e; exact .inr ⟨h2, h3⟩
        · exact .inl ⟨u, by omega, h2, h3⟩
theorem rounds_long (l : List I5) (hL : Led l) (R : Nat → Prop) (h0 : ∃ t, t < l.length ∧ R t) (hR : ∀ t, t < l.length → R t → ∃ u, u < l.length ∧ R u ∧ (t : Int) ∈ freeN (l.getD u z5)) : ∀ k s, (∀ t, t < l.length → R t → s.1.getD t false = true) → (rounds l (k + 1) s).2 = true := by
  intro k
  induction k with
  | zero =>
    intro s hs
    show (roundL l s.1 l.length).2 = true
    obtain ⟨t, ht, hRt⟩ := h0
    obtain ⟨u, hu, hRu, hm⟩ := hR t ht hRt
    exact (roundL_at l hL s.1 _ (Nat.le_refl _)).2.2 ⟨u, hu, hs u hu hRu, fun e => by rw [e] at hm; simp at hm⟩
  | succ k ih =>
    intro s hs
    rw [rounds]
    refine ih _ (fun t ht hRt => ?_)
    obtain ⟨u, hu, hRu, hm⟩ := hR t ht hRt
    exact ((roundL_at l hL s.1 _ (Nat.le_refl _)).1 t).2 ⟨u, hu, hs u hu hRu, hm⟩
theorem rounds_short (l : List I5) (hL : Led l) (pos : Nat → Nat) (hp : ∀ t, t < l.length → pos t < l.length) (hR : ∀ t, t < l.length → ∀ u, u < l.length → (t : Int) ∈ freeN (l.getD u z5) → pos u < pos t) : ∀ k s d, (∀ t, t < l.length → s.1.getD t false = true → d ≤ pos t) → l.length < d + (k + 1) → (rounds l (k + 1) s).2 = false := by
  intro k
  induction k with
  | zero =>
    intro s d hs hd
    show (roundL l s.1 l.length).2 = false
    rw [Bool.eq_false_iff]
    intro h
    obtain ⟨u, hu, h1, h2⟩ := (roundL_at l hL s.1 _ (Nat.le_refl _)).2.1 h
    have := hs u hu h1
    have := hp u hu
    omega
  | succ k ih =>
    intro s d hs hd
    rw [rounds]
    refine ih _ (d + 1) (fun t ht h => ?_) (by omega)
    obtain ⟨u, hu, h1, h2⟩ := ((roundL_at l hL s.1 _ (Nat.le_refl _)).1 t).1 h
    have := hs u hu h1
    have := hR t ht u hu h2
    omega
/-- How often an instruction is led to by those not yet done. -/
def cntTo (l : List I5) (done : List Bool) (t : Nat) : Nat → Nat
  | 0 => 0
  | k + 1 => cntTo l done t k + (if done.getD k false then 0 else (freeN (l.getD k z5)).count (t : Int))
theorem cnt_set (l : List I5) (done : List Bool) (t i : Nat) (hi : i < done.length) (hd : done.getD i false = false) : ∀ k, cntTo l (done.set i true) t k + (if i < k then (freeN (l.getD i z5)).count (t : Int) else 0) = cntTo l done t k := by
  intro k
  induction k with
  | zero => simp [cntTo]
  | succ k ih =>
    rw [cntTo, cntTo, getD_set _ _ _ _ _ hi, ← ih]
    by_cases e : k = i
    · subst e
      rw [if_pos rfl, if_pos rfl, if_neg (Nat.lt_irrefl _), if_pos (Nat.lt_succ_self _), hd, if_neg (by decide)]
      all_goals omega
    · rw [if_neg e]
      by_cases h : i < k
      · rw [if_pos h, if_pos (show i < k + 1 by omega)]; omega
      · rw [if_neg h, if_neg (show ¬ i < k + 1 by omega)]
        all_goals omega
theorem cnt_zero (l : List I5) (done : List Bool) (t : Nat) : ∀ k, cntTo l done t k = 0 → ∀ u, u < k → done.getD u false = false → (t : Int) ∉ freeN (l.getD u z5) := by
  intro k
  induction k with
  | zero => intro _ u h; omega
  | succ k ih =>
    intro h u hu hd hm
    rw [cntTo] at h
    by_cases e : u = k
    · subst e
      rw [hd, if_neg (by decide)] at h
      have := List.count_pos_iff.2 hm
      omega
    · exact ih (by omega) u (by omega) hd hm
theorem cnt_pos (l : List I5) (done : List Bool) (t : Nat) : ∀ k, 0 < cntTo l done t k → ∃ u, u < k ∧ done.getD u false = false ∧ (t : Int) ∈ freeN (l.getD u z5) := by
  intro k
  induction k with
  | zero => intro h; simp [cntTo] at h
  | succ k ih =>
    intro h
    by_cases h0 : 0 < cntTo l done t k
    · obtain ⟨u, h1, h2⟩ := ih h0
      exact ⟨u, by omega, h2⟩
    · rw [cntTo] at h
      cases hd : done.getD k false with
      | true => rw [hd, if_pos rfl] at h; omega
      | false =>
        rw [hd, if_neg (by decide)] at h
        exact ⟨k, by omega, hd, List.count_pos_iff.1 (by omega)⟩
theorem incs_at (ts : List Int) : ∀ ins : List Int, (∀ t ∈ ts, 0 ≤ t ∧ t < ins.length) → ∀ t : Nat, (ts.foldl incAt ins).getD t 0 = ins.getD t 0 + (ts.count (t : Int) : Nat) := by
  induction ts with
  | nil => intro ins _ t; simp
  | cons x ts ih =>
    intro ins h t
    have hx := h x (by simp)
    rw [List.foldl_cons, ih _ (fun y hy => by unfold incAt; rw [List.length_set]; exact h y (by simp [hy])) t, incAt, getD_set _ _ _ _ _ (by omega), List.count_cons]
    by_cases e : t = x.toNat
    · have : (x == (t : Int)) = true := by rw [beq_iff_eq]; omega
      rw [if_pos e, this, if_pos rfl, e]; omega
    · have : (x == (t : Int)) = false := by rw [beq_eq_false_iff_ne]; omega
      rw [if_neg e, this, if_neg (by decide)]; omega
theorem decs_at (ts : List Int) : ∀ ins : List Int, (∀ t ∈ ts, 0 ≤ t ∧ t < ins.length) → ∀ t : Nat, (ts.foldl decAt ins).getD t 0 = ins.getD t 0 - (ts.count (t : Int) : Nat) := by
  induction ts with
  | nil => intro ins _ t; simp
  | cons x ts ih =>
    intro ins h t
    have hx := h x (by simp)
    rw [List.foldl_cons, ih _ (fun y hy => by unfold decAt; rw [List.length_set]; exact h y (by simp [hy])) t, decAt, getD_set _ _ _ _ _ (by omega), List.count_cons]
    by_cases e : t = x.toNat
    · have : (x == (t : Int)) = true := by rw [beq_iff_eq]; omega
      rw [if_pos e, this, if_pos rfl, e]; omega
    · have : (x == (t : Int)) = false := by rw [beq_eq_false_iff_ne]; omega
      rw [if_neg e, this, if_neg (by decide)]; omega
theorem flat_cnt (l : List I5) (t : Nat) : ∀ k, k ≤ l.length → ((l.take k).flatMap freeN).count (t : Int) = cntTo l (List.replicate l.length false) t k := by
  intro k
  induction k with
  | zero => intro _; simp [cntTo]
  | succ k ih =>
    intro hk
    rw [List.take_succ_eq_append_getElem (by omega), List.flatMap_append, List.count_append, ih (by omega), cntTo]
    have h1 : (List.replicate l.length false).getD k false = false := by
      rw [List.getD_eq_getElem?_getD, List.getElem?_replicate]; split <;> rfl
    have h2 : l.getD k z5 = l[k] := by rw [List.getD_eq_getElem?_getD, List.getElem?_eq_getElem (by omega)]; rfl
    rw [h1, if_neg (by decide), h2]
    simp
/-- What holds at the head of each round of the ordering. -/
structure Ord (l : List I5) (ins : List Int) (done : List Bool) : Prop where
  li : ins.length = l.length
  ld : done.length = l.length
  cnt : ∀ t, t < l.length → ins.getD t 0 = (cntTo l done t l.length : Nat)
theorem Ord.start (l : List I5) (hL : ∀ x ∈ l, ∀ t ∈ freeN x, 0 ≤ t ∧ t < l.length) : Ord l (freeL l) (List.replicate l.length false) := by
  refine ⟨freeL_len l, by simp, fun t ht => ?_⟩
  unfold freeL
  rw [incs_at _ _ (fun y hy => by
    rw [List.length_replicate]
    obtain ⟨x, hx, hy⟩ := List.mem_flatMap.1 hy
    exact hL x hx y hy), ← flat_cnt l t _ (Nat.le_refl _), List.take_length, List.getD_eq_getElem?_getD, List.getElem?_replicate, if_pos ht]
  simp
theorem Ord.next {l : List I5} {ins : List Int} {done : List Bool} (h : Ord l ins done) (hL : Led l) {i : Nat} (hi : i < l.length) (hd : done.getD i false = false) : Ord l ((freeN (l.getD i z5)).foldl decAt ins) (done.set i true) := by
  refine ⟨by rw [decs_len]; exact h.li, by rw [List.length_set]; exact h.ld, fun t ht => ?_⟩
  have hi' : i < done.length := by rw [h.ld]; exact hi
  rw [decs_at _ _ (fun y hy => by rw [h.li]; exact hL i hi y hy), h.cnt t ht, ← cnt_set l done t i hi' hd l.length, if_pos hi]
  omega
theorem find_opened {n i : Nat} {p : Nat → Bool} (h : (List.range n).find? p = some i) : i < n ∧ p i = true := ⟨List.mem_range.1 (List.mem_of_find?_eq_some h), List.find?_some h⟩
theorem ord_none (l : List I5) (hL : Led l) : ∀ f ins done out, Ord l ins done → done.count false = f → ordF l f ins done out = none → ∃ R : Nat → Prop, (∃ t, t < l.length ∧ R t) ∧ ∀ t, t < l.length → R t → ∃ u, u < l.length ∧ R u ∧ (t : Int) ∈ freeN (l.getD u z5) := by
  intro f
  induction f with
  | zero => intro ins done out _ _ h; exact absurd h (by simp [ordF])
  | succ f ih =>
    intro ins done out hO hc h
    rw [ordF] at h
    split at h
    · rename_i hf
      refine ⟨fun t => done.getD t false = false, ?_, fun t ht hRt => ?_⟩
      · have : false ∈ done := List.count_pos_iff.1 (by omega)
        obtain ⟨i, hi, e⟩ := List.mem_iff_getElem.1 this
        exact ⟨i, by rw [← hO.ld]; exact hi, by show done.getD i false = false; rw [List.getD_eq_getElem?_getD, List.getElem?_eq_getElem hi, e]; rfl⟩
      · rw [List.find?_eq_none] at hf
        have := hf t (List.mem_range.2 ht)
        unfold openI at this
        simp only [hRt, Bool.not_false, Bool.and_true, decide_eq_true_eq] at this
        rw [hO.cnt t ht] at this
        exact cnt_pos l done t _ (by omega)
    · rename_i i hf
      obtain ⟨hi, ho⟩ := find_opened hf
      unfold openI at ho
      simp only [Bool.and_eq_true, Bool.not_eq_true', decide_eq_true_eq] at ho
      have hi' : i < done.length := by rw [hO.ld]; exact hi
      refine ih _ _ _ (hO.next hL hi ho.2) ?_ h
      rw [List.count_set hi']
      have : done[i] = false := by have := ho.2; rw [List.getD_eq_getElem?_getD, List.getElem?_eq_getElem hi'] at this; exact this
      simp [this]
      omega
theorem ord_some (l : List I5) (hL : Led l) : ∀ f ins done out r, Ord l ins done → done.count false = f → ordF l f ins done out = some r → ∃ pos : Nat → Nat, (∀ t, t < l.length → done.getD t false = false → pos t < f) ∧ ∀ t, t < l.length → done.getD t false = false → ∀ u, u < l.length → (t : Int) ∈ freeN (l.getD u z5) → done.getD u false = true ∨ pos u < pos t := by
  intro f
  induction f with
  | zero =>
    intro ins done out r hO hc _
    have hall : ∀ t, t < l.length → done.getD t false = false → False := by
      intro t ht h
      have ht' : t < done.length := by rw [hO.ld]; exact ht
      rw [List.getD_eq_getElem?_getD, List.getElem?_eq_getElem ht'] at h
      have : false ∈ done := by rw [← show done[t] = false from h]; exact List.getElem_mem _
      have := List.count_pos_iff.2 this
      omega
    exact ⟨fun _ => 0, fun t ht h => (hall t ht h).elim, fun t ht h => (hall t ht h).elim⟩
  | succ f ih =>
    intro ins done out r hO hc h
    rw [ordF] at h
    split at h
    · exact absurd h (by simp)
    · rename_i i hf
      obtain ⟨hi, ho⟩ := find_opened hf
      unfold openI at ho
      simp only [Bool.and_eq_true, Bool.not_eq_true', decide_eq_true_eq] at ho
      have hi' : i < done.length := by rw [hO.ld]; exact hi
      obtain ⟨pos, hp1, hp2⟩ := ih _ _ _ r (hO.next hL hi ho.2) (by
        rw [List.count_set hi']
        have : done[i] = false := by have := ho.2; rw [List.getD_eq_getElem?_getD, List.getElem?_eq_getElem hi'] at this; exact this
        simp [this]
        omega) h
      refine ⟨fun t => if t = i then 0 else pos t + 1, fun t ht hd => ?_, fun t ht hd u hu hm => ?_⟩
      · by_cases e : t = i
        · simp [e]
        · have := hp1 t ht (by rw [getD_set _ _ _ _ _ hi', if_neg e]; exact hd)
          simp only [if_neg e]
          omega
      · by_cases e : t = i
        · left
          rw [e] at hm
          cases hdu : done.getD u false with
          | true => rfl
          | false =>
            have h0 := ho.1
            rw [hO.cnt i hi] at h0
            exact absurd hm (cnt_zero l done i _ (by omega) u hu hdu)
        · rcases hp2 t ht (by rw [getD_set _ _ _ _ _ hi', if_neg e]; exact hd) u hu hm with h1 | h1
          · rw [getD_set _ _ _ _ _ hi'] at h1
            by_cases eu : u = i
            · right; simp [eu, e]
            · rw [if_neg eu] at h1; exact .inl h1
          · right
            by_cases eu : u = i
            · simp [eu, e]
            · simp only [if_neg e, if_neg eu]; omega
theorem led_of {l : List I5} (h : ∀ x ∈ l, ∀ t ∈ freeN x, 0 ≤ t ∧ t < l.length) : Led l := by
  intro i hi t ht
  rw [List.getD_eq_getElem?_getD, List.getElem?_eq_getElem hi] at ht
  exact h _ (List.getElem_mem hi) t ht
theorem loops_eq (l : List I5) (h : ∀ x ∈ l, ∀ t ∈ freeN x, 0 ≤ t ∧ t < l.length) : (rounds l (l.length + 1) (List.replicate l.length true, true)).2 = (ordL l).isNone := by
  have hL := led_of h
  have hs := Ord.start l h
  cases ho : ordL l with
  | none =>
    obtain ⟨R, h0, hR⟩ := ord_none l hL _ _ _ _ hs (by simp) ho
    refine rounds_long l hL R h0 hR l.length _ (fun t ht _ => ?_)
    rw [List.getD_eq_getElem?_getD, List.getElem?_replicate, if_pos ht]
    rfl
  | some r =>
    obtain ⟨pos, h1, h2⟩ := ord_some l hL _ _ _ _ r hs (by simp) ho
    have hf : ∀ t, t < l.length → (List.replicate l.length false).getD t false = false := fun t ht => by rw [List.getD_eq_getElem?_getD, List.getElem?_replicate, if_pos ht]; rfl
    refine rounds_short l hL pos (fun t ht => h1 t ht (hf t ht)) (fun t ht u hu hm => ?_) l.length _ 0 (fun t _ _ => Nat.zero_le _) (by omega)
    rcases h2 t ht (hf t ht) u hu hm with h3 | h3
    · rw [hf u hu] at h3; exact absurd h3 (by decide)
    · exact h3
theorem getD_app {α : Type} (l : List α) (x d : α) (p : Nat) : (l ++ [x]).getD p d = if p < l.length then l.getD p d else if p = l.length then x else d := by
  rw [List.getD_eq_getElem?_getD, List.getD_eq_getElem?_getD, List.getElem?_append]
  by_cases h : p < l.length
  · rw [if_pos h, if_pos h]
  · rw [if_neg h, if_neg h]
    by_cases e : p = l.length
    · rw [if_pos e, e]; simp
    · rw [if_neg e, List.getElem?_eq_none (by simp; omega)]; rfl
/-- What the order is at the head of each round. -/
structure Out (l : List I5) (done : List Bool) (out : List Int) : Prop where
  inn : ∀ p, p < out.length → ∃ t : Nat, t < l.length ∧ out.getD p 0 = (t : Int)
  dn : ∀ t : Nat, t < l.length → (done.getD t false = true ↔ ∃ p, p < out.length ∧ out.getD p 0 = (t : Int))
  nd : ∀ p q, p < out.length → q < out.length → out.getD p 0 = out.getD q 0 → p = q
  pre : ∀ p, p < out.length → ∀ u : Nat, u < l.length → out.getD p 0 ∈ freeN (l.getD u z5) → ∃ q, q < p ∧ out.getD q 0 = (u : Int)
theorem Out.push {l : List I5} {ins : List Int} {done : List Bool} {out : List Int} (h : Out l done out) (hO : Ord l ins done) {i : Nat} (hi : i < l.length) (hd : done.getD i false = false) (h0 : ins.getD i 0 ≤ 0) : Out l (done.set i true) (out ++ [(i : Int)]) := by
  have hi' : i < done.length := by rw [hO.ld]; exact hi
  have hno : ∀ p, p < out.length → out.getD p 0 ≠ (i : Int) := fun p hp e => by
    have := (h.dn i hi).2 ⟨p, hp, e⟩
    rw [hd] at this
    exact absurd this (by decide)
  refine ⟨fun p hp => ?_, fun t ht => ?_, fun p q hp hq e => ?_, fun p hp u hu hm => ?_⟩
  · rw [getD_app]
    rw [List.length_append, List.length_singleton] at hp
    by_cases e : p < out.length
    · rw [if_pos e]; exact h.inn p e
    · rw [if_neg e, if_pos (show p = out.length by omega)]; exact ⟨i, hi, rfl⟩
  · rw [getD_set _ _ _ _ _ hi', List.length_append, List.length_singleton]
    by_cases e : t = i
    · rw [if_pos e]
      refine ⟨fun _ => ⟨out.length, by omega, ?_⟩, fun _ => rfl⟩
      rw [getD_app, if_neg (Nat.lt_irrefl _), if_pos rfl, e]
    · rw [if_neg e, h.dn t ht]
      constructor
      · rintro ⟨p, hp, e2⟩
        exact ⟨p, by omega, by rw [getD_app, if_pos hp]; exact e2⟩
      · rintro ⟨p, hp, e2⟩
        rw [getD_app] at e2
        by_cases e3 : p < out.length
        · rw [if_pos e3] at e2; exact ⟨p, e3, e2⟩
        · rw [if_neg e3, if_pos (show p = out.length by omega)] at e2
          omega
  · rw [List.length_append, List.length_singleton] at hp hq
    rw [getD_app, getD_app] at e
    by_cases hp' : p < out.length
    · by_cases hq' : q < out.length
      · rw [if_pos hp', if_pos hq'] at e; exact h.nd p q hp' hq' e
      · rw [if_pos hp', if_neg hq', if_pos (show q = out.length by omega)] at e; exact absurd e (hno p hp')
    · by_cases hq' : q < out.length
      · rw [if_neg hp', if_pos hq', if_pos (show p = out.length by omega)] at e; exact absurd e.symm (hno q hq')
      · omega
  · rw [List.length_append, List.length_singleton] at hp
    rw [getD_app] at hm
    by_cases hp' : p < out.length
    · rw [if_pos hp'] at hm
      obtain ⟨q, hq, e⟩ := h.pre p hp' u hu hm
      exact ⟨q, hq, by rw [getD_app, if_pos (show q < out.length by omega)]; exact e⟩
    · rw [if_neg hp', if_pos (show p = out.length by omega)] at hm
      rw [hO.cnt i hi] at h0
      have hdu : done.getD u false = true := by
        cases hdu : done.getD u false with
        | true => rfl
        | false => exact absurd hm (cnt_zero l done i _ (by omega) u hu hdu)
      obtain ⟨q, hq, e⟩ := (h.dn u hu).1 hdu
      exact ⟨q, by omega, by rw [getD_app, if_pos hq]; exact e⟩
theorem ord_out (l : List I5) (hL : Led l) : ∀ f ins done out r, Ord l ins done → Out l done out → done.count false = f → out.length + f = l.length → ordF l f ins done out = some r → r.length = l.length ∧ ∃ done', Out l done' r ∧ ∀ t, t < l.length → done'.getD t false = true := by
  intro f
  induction f with
  | zero =>
    intro ins done out r hO hU hc hn h
    obtain rfl : out = r := by simpa [ordF] using h
    refine ⟨hn, done, hU, fun t ht => ?_⟩
    cases h : done.getD t false with
    | true => rfl
    | false =>
      have ht' : t < done.length := by rw [hO.ld]; exact ht
      rw [List.getD_eq_getElem?_getD, List.getElem?_eq_getElem ht'] at h
      have : false ∈ done := by rw [← show done[t] = false from h]; exact List.getElem_mem _
      have := List.count_pos_iff.2 this
      omega
  | succ f ih =>
    intro ins done out r hO hU hc hn h
    rw [ordF] at h
    split at h
    · exact absurd h (by simp)
    · rename_i i hf
      obtain ⟨hi, ho⟩ := find_opened hf
      unfold openI at ho
      simp only [Bool.and_eq_true, Bool.not_eq_true', decide_eq_true_eq] at ho
      have hi' : i < done.length := by rw [hO.ld]; exact hi
      refine ih _ _ _ r (hO.next hL hi ho.2) (hU.push hO hi ho.2 ho.1) ?_ (by rw [List.length_append, List.length_singleton]; omega) h
      rw [List.count_set hi']
      have : done[i] = false := by have := ho.2; rw [List.getD_eq_getElem?_getD, List.getElem?_eq_getElem hi'] at this; exact this
      simp [this]
      omega
/-- Each instruction's place in the order, one on. -/
def placeF (n : Nat) (o : List Int) (i : Nat) : List Int := (List.range i).foldl (fun pl j => pl.set (o.getD j 0).toNat ((j : Int) + 1)) (List.replicate n 0)
theorem place_succ (n : Nat) (o : List Int) (i : Nat) : placeF n o (i + 1) = (placeF n o i).set (o.getD i 0).toNat ((i : Int) + 1) := by
  unfold placeF
  rw [List.range_succ, List.foldl_append]
  rfl
theorem place_len (n : Nat) (o : List Int) (i : Nat) : (placeF n o i).length = n := by
  induction i with
  | zero => simp [placeF]
  | succ i ih => rw [place_succ, List.length_set, ih]
theorem place_at {l : List I5} {done : List Bool} {o : List Int} (h : Out l done o) : ∀ i, i ≤ o.length → (∀ q, q < i → ∀ t : Nat, o.getD q 0 = (t : Int) → (placeF l.length o i).getD t 0 = (q : Int) + 1) ∧ ∀ t : Nat, (∀ q, q < i → o.getD q 0 ≠ (t : Int)) → (placeF l.length o i).getD t 0 = 0 := by
  intro i
  induction i with
  | zero =>
    intro _
    refine ⟨fun q hq => by omega, fun t _ => ?_⟩
    unfold placeF
    rw [List.range_zero, List.foldl_nil, List.getD_eq_getElem?_getD, List.getElem?_replicate]
    split <;> rfl
  | succ i ih =>
    intro hi
    have ih := ih (by omega)
    obtain ⟨ti, hti, hte⟩ := h.inn i (by omega)
    have hin : (o.getD i 0).toNat < (placeF l.length o i).length := by rw [place_len, hte]; omega
    rw [place_succ]
    refine ⟨fun q hq t ht => ?_, fun t ht => ?_⟩
    · rw [getD_set _ _ _ _ _ hin]
      by_cases e : q = i
      · rw [if_pos (show t = (o.getD i 0).toNat by rw [← e, ht]; omega), e]
      · rw [if_neg, ih.1 q (by omega) t ht]
        intro e2
        apply e
        exact h.nd q i (by omega) (by omega) (by rw [ht, hte]; omega)
    · rw [getD_set _ _ _ _ _ hin, if_neg, ih.2 t (fun q hq => ht q (by omega))]
      intro e2
      exact ht i (by omega) (by rw [hte]; omega)
theorem order_facts (l : List I5) (hT : ∀ x ∈ l, ∀ t ∈ freeN x, 0 ≤ t ∧ t < l.length) (r : List Int) (h : ordL l = some r) : r.length = l.length ∧ (∀ i, i < r.length → ∃ t : Nat, t < l.length ∧ r.getD i 0 = (t : Int) ∧ (placeF l.length r i).getD t 0 = 0) ∧ (∀ u, u < l.length → 0 < (placeF l.length r r.length).getD u 0) ∧ ∀ u, u < l.length → ∀ t ∈ freeN (l.getD u z5), (placeF l.length r r.length).getD u 0 < (placeF l.length r r.length).getD t.toNat 0 := by
  have hL := led_of hT
  obtain ⟨hr, done, hU, hall⟩ := ord_out l hL _ _ _ _ r (Ord.start l hT) ⟨fun p hp => absurd hp (by simp), fun t ht => by
    constructor
    · intro h; rw [List.getD_eq_getElem?_getD, List.getElem?_replicate, if_pos ht] at h; exact absurd h (by decide)
    · rintro ⟨p, hp, _⟩; exact absurd hp (by simp), fun p q hp => absurd hp (by simp), fun p hp => absurd hp (by simp)⟩ (by simp) (by simp) h
  have hsur : ∀ t : Nat, t < l.length → ∃ p, p < r.length ∧ r.getD p 0 = (t : Int) := fun t ht => (hU.dn t ht).1 (hall t ht)
  refine ⟨hr, fun i hi => ?_, fun u hu => ?_, fun u hu t ht => ?_⟩
  · obtain ⟨t, ht, e⟩ := hU.inn i hi
    exact ⟨t, ht, e, (place_at hU i (by omega)).2 t (fun q hq e2 => by
      have := hU.nd q i (by omega) hi (by rw [e2, e])
      omega)⟩
  · obtain ⟨p, hp, e⟩ := hsur u hu
    rw [(place_at hU r.length (Nat.le_refl _)).1 p hp u e]
    omega
  · have hlt := hL u hu t ht
    obtain ⟨p, hp, e⟩ := hsur t.toNat (by omega)
    obtain ⟨q, hq, e2⟩ := hU.pre p hp u hu (by rw [e, show ((t.toNat : Nat) : Int) = t by omega]; exact ht)
    rw [(place_at hU r.length (Nat.le_refl _)).1 p hp t.toNat e, (place_at hU r.length (Nat.le_refl _)).1 q (by omega) u e2]
    omega
theorem next_at (x : I5) (w : World) : Calls Try.prog 10 #[aggIn x] w fun e w' => ∃ v, e = .returned v ∧ Kd.R (Kd.int .i64) 3 w' w.heap.size (fun _ => True) v (freeN x) ∧ Below w.heap.size w w' := by
  refine burinlaw16_next.calls x.1 x.2.1 x.2.2.1 x.2.2.2.1 x.2.2.2.2 (freeN x) w ?_
  unfold burinlaw16_next.f freeN leadsV
  by_cases h2 : x.1 = 2
  · simp [h2]
  · by_cases h1 : x.1 = 1
    · simp [h1]
    · by_cases h3 : x.1 = 3
      · simp [h3]
      · by_cases h4 : x.1 = 4
        · simp [h4]
        · simp [h1, h2, h3, h4]
theorem free_len (x : I5) : (freeN x).length ≤ 2 := by
  unfold freeN
  split
  · simp
  · exact leads_len x
theorem target_ok {l : List I5} {a b : Int} (h0 : checkC l a b = 0) (ht : targetsB l a = true) : ∀ x ∈ l, ∀ t ∈ freeN x, 0 ≤ t ∧ t < l.length := by
  intro x hx t htx
  have := ledB_iff.1 (led_ok h0 ht) x hx t
  unfold freeN at htx
  split at htx
  · simp at htx
  · exact this htx
theorem looked {l : List I5} {a b : Int} (h : (lookC l a b).2 = 0) : 1 ≤ l.length ∧ (∀ x ∈ l, ∀ t ∈ freeN x, 0 ≤ t ∧ t < l.length) ∧ ordL l = some (lookC l a b).1 := by
  obtain ⟨h0, ht, hs, o, ho, e⟩ := look_len h
  exact ⟨(checkC_ok h0).1, target_ok h0 ht, by rw [ho, e]⟩
/-- What is at the head of each round. -/
structure PlSt (w wr : World) (A : Option Addr) (n c : Nat) (a b : Int) (l : List I5) (gp cp : Nat) (pl : List Int) : Prop where
  box : wr.heap[w.heap.size]? = some (.cells #[.slice A n c, .int .i64 a, .int .i64 b] 24 (0, 0))
  below : Below w.heap.size w wr
  prog : Kd.C kIn wr A n l
  rp : Kd.R (Kd.int .i64) 3 wr w.heap.size (fun k => k = gp) (.slice (some ⟨gp, 0, none⟩) n cp) pl
  lt : w.heap.size < gp ∧ gp < wr.heap.size
section
variable {w wr : World} {A : Option Addr} {n c : Nat} {a b : Int} {l : List I5} {gp cp : Nat} {pl : List Int}
theorem PlSt.step {w2 : World} (h : PlSt w wr A n c a b l gp cp pl) (hb : Below wr.heap.size wr w2) : PlSt w w2 A n c a b l gp cp pl :=
  ⟨(hb.block _ (blk_lt h.box)).trans h.box, h.below.trans (hb.mono h.below.size), Kd.C_below h.prog hb, Kd.R_below h.rp hb, by have := h.lt; have := hb.size; omega⟩
theorem PlSt.put (h : PlSt w wr A n c a b l gp cp pl) (hC : Kd.C kIn w A n l) (i : Nat) (v : Int) : PlSt w (wr.setCell ⟨gp, i, none⟩ (.int .i64 v)) A n c a b l gp cp (pl.set i v) := by
  have hl := h.lt
  have hb : Below w.heap.size w (wr.setCell ⟨gp, i, none⟩ (.int .i64 v)) := h.below.setCell (p := ⟨gp, i, none⟩) (by show w.heap.size ≤ gp; omega) _
  refine ⟨(Below.heap_setCell wr ⟨gp, i, none⟩ _ _ (by show w.heap.size ≠ gp; omega)).trans h.box, hb, Kd.C_below hC hb, ?_, by simpa using hl⟩
  have := Kd.R_putn h.rp (i : Int) v
  rw [Int.toNat_natCast] at this
  exact this
end
set_option maxHeartbeats 8000000 in
set_option maxRecDepth 100000 in
theorem VerifyOrders_walk (A : Option Addr) (c : Nat) (l : List I5) (a b : Int) (w : World) (hC : Kd.C kIn w A l.length l) (hc : l.length ≤ c) (hG : l.length ≤ maxLen ∧ ∀ y ∈ l, wf5 y) (ha : wfI a) (hb : wfI b) :
    Calls Try.prog 3 #[.agg #[.slice A l.length c, .int .i64 a, .int .i64 b]] w (fun e w' => e = .returned (.bool true) ∧ Below w.heap.size w w') := by
  obtain ⟨w0, hw0⟩ : ∃ w0, w0 = w.alloc (.cells #[.slice A l.length c, .int .i64 a, .int .i64 b] 24) := ⟨_, rfl⟩
  have hb0 : Below w.heap.size w w0 := by rw [hw0]; exact (Below.refl _ w).alloc (Nat.le_refl _) _
  have hl0 : w0.heap[w.heap.size]? = some (.cells #[.slice A l.length c, .int .i64 a, .int .i64 b] 24 (0, 0)) := by rw [hw0]; exact heap_alloc_last w _
  have HB := Aside0.mk hb0
  have HP := Aside0.mk hl0
  have HW := Aside0.mk (works_at w0)
  have HC := Aside0.mk (Kd.C_below hC hb0)
  have HN := Aside0.mk (fun (W : World) (h : Kd.C kIn W A l.length l) => new_at (a := a) (b := b) (w := W) h hc)
  have HOK := Aside0.mk (looked (l := l) (a := a) (b := b))
  have HNP := Aside0.mk (fun (W : World) (e : Ending) (W' : World) (h : NewPost W l a b e W') => show ((lookC l a b).2 ≠ 0 ∧ e = .returned (.tuple #[.pointer none, .int .i64 (lookC l a b).2]) ∧ Below W.heap.size W W') ∨ ((lookC l a b).2 = 0 ∧ ∃ g, e = .returned (.tuple #[.pointer (some ⟨g, 0, none⟩), .int .i64 0]) ∧ W.heap.size ≤ g ∧ Ck W' g l a b (lookC l a b).1 ∧ Below W.heap.size W W') from h)
  generalize (lookC l a b).2 = code at HOK HNP
  generalize (lookC l a b).1 = o at HOK HNP
  obtain ⟨n, hn⟩ : ∃ n, l.length = n := ⟨_, rfl⟩
  have HLN := Aside0.mk hn
  rw [hn] at HC HP HN HOK hc hw0 hG ⊢
  have hnm : n ≤ maxLen := hG.1
  rw [hn] at hC
  have HCW := Aside0.mk hC
  clear hb0 hl0 hC hn hG
  go_enter Try.func3, Try.ntmps3
  go_wp2_with fail
  rw [← hw0]
  refine HW.out.mono ?_
  rintro e w1 ⟨rfl, hb1⟩
  have HB1 := Aside0.mk (HB.out.trans (hb1.mono HB.out.size))
  have HC1 := Aside0.mk (Kd.C_below HC.out hb1)
  have HP1 := Aside0.mk ((hb1.block _ (blk_lt HP.out)).trans HP.out)
  have p0 : w1.cell? ⟨w.heap.size, 0, none⟩ = some (.slice A n c) := (blk_cell HP1.out 0).trans rfl
  have p1 : w1.cell? ⟨w.heap.size, 1, none⟩ = some (.int .i64 a) := (blk_cell HP1.out 1).trans rfl
  have p2 : w1.cell? ⟨w.heap.size, 2, none⟩ = some (.int .i64 b) := (blk_cell HP1.out 2).trans rfl
  clear hb1 HB HP HC HW hw0
  by_cases h200 : n ≤ 200
  · go_wp2_with fail
    refine (HN.out _ HC1.out).mono ?_
    rintro e w2 hpost
    rcases HNP.out _ _ _ hpost with ⟨hne, rfl, hb2⟩ | ⟨h0, g, rfl, hg, hck, hb2⟩
    · have HB2 := Aside0.mk (HB1.out.trans (hb2.mono HB1.out.size))
      clear hb2 hpost p0 p1 p2
      go_wp2
      go_ret
      exact ⟨rfl, HB2.out⟩
    · subst h0
      have HB2 := Aside0.mk (HB1.out.trans (hb2.mono HB1.out.size))
      have HC2 := Aside0.mk (Kd.C_below HC1.out hb2)
      have HP2 := Aside0.mk ((hb2.block _ (blk_lt HP1.out)).trans HP1.out)
      have HK2 := Aside0.mk hck
      have hgw : w.heap.size < g := Nat.lt_of_lt_of_le (blk_lt HP1.out) hg
      obtain ⟨hn1, hT, hord⟩ := HOK.out rfl
      have HT := Aside0.mk hT
      have HOF := Aside0.mk (order_facts l (by rw [HLN.out]; exact hT) o hord)
      clear hb2 hck hpost p0 p1 p2 HP1 HC1 HB1 HN HNP HOK hT hord hg
      rw [HLN.out] at HOF
      have p0 : w2.cell? ⟨w.heap.size, 0, none⟩ = some (.slice A n c) := (blk_cell HP2.out 0).trans rfl
      have hon := HOF.out.1
      go_wp2_with ((with_reducible refine gate_dst (N := 30) rfl ?_); refine Kd.R_make (Kd.int .i64) (w0 := w) w.heap.size 3 rfl (N := 30) rfl 30 _ _ rfl (n : Int) rfl rfl Try.underlying30 (.int .i64 0) 8 info_int rfl (by decide) (by omega) (0 : Int) (ok := fun k => w2.heap.size ≤ k) (okp := fun k => w2.heap.size ≤ k) rfl (fun _ hk => hk) (Nat.le_refl _) (by omega) (by omega) HB2.out HB2.out.size ?_; intro v3 w3 hD hb3 hg3 hn3; obtain ⟨gp, cp, hvp, hgp, hgp2, _⟩ := Kd.R_form hD (by simp; omega); subst hvp; have hrl : (List.replicate (n : Int).toNat (0 : Int)).length = n := (by simp); rw [hrl] at hD ⊢; rw [Int.toNat_natCast] at hD; have hbb : Below w2.heap.size w2 w3 := (Below.refl _ w2).grown hg3 (Nat.le_refl _) (fun k h => by cases h); have hD2 : Kd.R (Kd.int .i64) 3 w3 w.heap.size (fun k => k = gp) (.slice (some ⟨gp, 0, none⟩) n cp) (List.replicate n 0) := ⟨fun k hk => (by simp [Value.ownBlock] at hk; exact hk.symm), (by obtain ⟨_, inner, ho, hr⟩ := hD; exact ⟨inner, ho, hr⟩)⟩; have HM := Aside0.mk (PlSt.mk ((hbb.block _ (blk_lt HP2.out)).trans HP2.out) hb3 (Kd.C_below HC2.out hbb) hD2 ⟨(by have := HB2.out.size; have := blk_lt HP2.out; have := hD.1 gp rfl; omega), hgp2⟩); have HK3 := Aside0.mk (HK2.out.step hbb); clear hD hD2 hrl hb3 hg3 hn3 hbb p0 HK2 hgp hgp2 HP2 HC2 HB2)
      refine (order_at HK3.out (by omega)).mono ?_
      rintro e w4 ⟨v4, rfl, hR4, hb4⟩
      obtain ⟨A4, c4, rfl⟩ := Kd.R_slice hR4
      rw [hon] at hR4 ⊢
      have HM4 := Aside0.mk (HM.out.step hb4)
      have HR4 := Aside0.mk (Kd.R_mono (ok' := fun k => w3.heap.size ≤ k) (show Kd.R (Kd.int .i64) 3 w4 w3.heap.size (fun k => w3.heap.size ≤ k) (.slice A4 n c4) o from Kd.R_mono (Kd.R_bound hR4) (fun k hk => hk.2.1)) (fun _ h => h))
      have HG := Aside0.mk (show gp < w3.heap.size from HM.out.lt.2)
      clear HM HK3 hR4 hb4
      go_wp2_with fail
      go_loopg [34] n (fun gq s34 wr => ∃ i : Nat, i ≤ n ∧ n - i ≤ gq ∧ s34 = .int .i64 i ∧ Aside0 (PlSt w wr A n c a b l gp cp (placeF n o i)) ∧ Aside0 (Kd.R (Kd.int .i64) 3 wr w3.heap.size (fun k => w3.heap.size ≤ k) (.slice A4 n c4) o))
      case atStart => exact ⟨0, by omega, by omega, rfl, HM4, HR4⟩
      case round =>
        clear HM4 HR4
        obtain ⟨i, hi, hgq, rfl, HM, HR⟩ := hrel
        by_cases hin : i < n
        · obtain ⟨g7, c7', e7, hg7, _⟩ := Kd.R_form HR.out (by omega)
          injection e7 with e7 e8 e9
          subst e7
          clear e8 e9
          obtain ⟨t, ht, hte, hpt⟩ := HOF.out.2.1 i (by omega)
          have htc := (int_cell HR.out (show i < n by omega)).1
          rw [hte] at htc
          have hpc := int_cell HM.out.rp ht
          have hc1 := hpc.1
          have hf1 := hpc.2
          rw [hpt] at hc1
          have HMX := Aside0.mk (HM.out.put HCW.out t ((i : Int) + 1))
          have HRX := Aside0.mk (Kd.R_far HR.out (p := ⟨gp, t, none⟩) (fun k hk => by show k ≠ gp; have := HG.out; omega) (.int .i64 ((i : Int) + 1)))
          have HPS := Aside0.mk (show placeF n o (i + 1) = (placeF n o i).set t ((i : Int) + 1) by rw [place_succ, hte, Int.toNat_natCast])
          clear hpc hte hpt
          have q1 : decide ((t : Int) < 0) = false := decide_eq_false (by omega)
          have q2 : decide ((n : Int) ≤ (t : Int)) = false := decide_eq_false (by omega)
          have hi200 : (i : Int) < 200 := by omega
          go_wp2_with fail
          go_roundg (n - (i + 1))
          case measure => omega
          case rel => exact ⟨i + 1, by omega, by omega, by rw [show (i : Int) + 1 = ((i + 1 : Nat) : Int) by omega], ⟨by rw [HPS.out]; exact HMX.out⟩, HRX⟩
        · have hni : n = i := by omega
          subst hni
          have HM5 := Aside0.mk HM.out
          have hPp := HOF.out.2.2.1
          have hPe := HOF.out.2.2.2
          rw [hon] at hPp hPe
          have HPP := Aside0.mk hPp
          have HPE := Aside0.mk hPe
          clear hPp hPe HOF HR
          generalize placeF n o n = P at HM HM5 HPP HPE
          have p0 : wr.cell? ⟨w.heap.size, 0, none⟩ = some (.slice A n c) := (blk_cell HM.out.box 0).trans rfl
          clear HM
          go_wp2_with fail
          go_loopg [63] n (fun gq s63 wr => ∃ i : Nat, i ≤ n ∧ n - i ≤ gq ∧ s63 = .int .i64 i ∧ Aside0 (PlSt w wr A n c a b l gp cp P))
          case atStart => exact ⟨0, by omega, by omega, rfl, HM5⟩
          case round =>
            clear HM5 p0
            obtain ⟨i, hi, hgi, rfl, HM⟩ := hrel
            by_cases hin : i < n
            · obtain ⟨bI, oI, eI, hbI, x0, x1, x2, x3, x4⟩ := inst_at HM.out.prog (i := i) (by have := HLN.out; omega)
              subst eI
              have hil : i < l.length := by have := HLN.out; omega
              obtain ⟨x, hx⟩ : ∃ x, x = l[i] := ⟨_, rfl⟩
              have HX := Aside0.mk (show x ∈ l by rw [hx]; exact List.getElem_mem _)
              have HXD := Aside0.mk (show l.getD i z5 = x by rw [hx, List.getD_eq_getElem?_getD, List.getElem?_eq_getElem hil]; rfl)
              rw [← hx] at x0 x1 x2 x3 x4
              have hpi := (int_cell HM.out.rp hin).1
              obtain ⟨vi, hvi⟩ : ∃ vi, vi = P.getD i 0 := ⟨_, rfl⟩
              have HVI := Aside0.mk hvi
              have hv0 : 0 < vi := by rw [hvi]; exact HPP.out i hin
              have hvz : ¬ vi = 0 := by omega
              rw [← hvi] at hpi
              have hgpl := HM.out.lt.2
              have hne : gp ≠ wr.heap.size := by omega
              clear hx hvi
              go_wp2_with fail
              obtain ⟨w5, hw5⟩ : ∃ w5, w5 = wr.alloc (.cells #[.int .i64 x.1, .int .i64 x.2.1, .int .i64 x.2.2.1, .int .i64 x.2.2.2.1, .int .i64 x.2.2.2.2] 33) := ⟨_, rfl⟩
              rw [← hw5]
              have hb5 : Below wr.heap.size wr w5 := by rw [hw5]; exact (Below.refl _ wr).alloc (Nat.le_refl _) _
              clear x0 x1 x2 x3 x4 hw5 hpi hgpl hne
              refine (next_at x w5).mono ?_
              rintro e w6 ⟨v6, rfl, hR6, hb6⟩
              obtain ⟨A6, c6, rfl⟩ := Kd.R_slice hR6
              have HM6 := Aside0.mk (HM.out.step (hb5.trans (hb6.mono hb5.size)))
              have HR6 := Aside0.mk (Kd.R_mono (ok' := fun k => w5.heap.size ≤ k) (show Kd.R (Kd.int .i64) 3 w6 w5.heap.size (fun k => w5.heap.size ≤ k) (.slice A6 _ c6) (freeN x) from Kd.R_mono (Kd.R_bound hR6) (fun k hk => hk.2.1)) (fun _ h => h))
              have HTX := Aside0.mk (HT.out x HX.out)
              have HPL := Aside0.mk (free_len x)
              have HPX := Aside0.mk (show ∀ t ∈ freeN x, vi < P.getD t.toNat 0 by
                intro t ht
                rw [HVI.out]
                exact HPE.out i hin t (by rw [HXD.out]; exact ht))
              clear hR6 hb6 hb5 HM HX HXD hil
              generalize freeN x = ts at HTX HPL HPX HR6 ⊢
              obtain ⟨m, hm⟩ : ∃ m, m = ts.length := ⟨_, rfl⟩
              have HMT := Aside0.mk hm
              rw [← hm] at HR6 HPL ⊢
              clear hm
              go_wp2_with fail
              go_loopg [76] m (fun gq s76 wr4 => ∃ j : Nat, j ≤ m ∧ m - j ≤ gq ∧ s76 = .int .i64 j ∧ Aside0 (PlSt w wr4 (some ⟨bI, oI, none⟩) n c a b l gp cp P) ∧ Aside0 (Kd.R (Kd.int .i64) 3 wr4 w5.heap.size (fun k => w5.heap.size ≤ k) (.slice A6 m c6) ts))
              case atStart => exact ⟨0, by omega, by omega, rfl, HM6, HR6⟩
              case round =>
                clear HM6 HR6
                obtain ⟨j, hj, hgj, rfl, HM4, HR4⟩ := hrel
                have HPLo := HPL.out
                by_cases hjm : j < m
                · obtain ⟨g7, c7', e7, hg7, _⟩ := Kd.R_form HR4.out (by have := HMT.out; omega)
                  injection e7 with e7 e8 e9
                  subst e7
                  clear e8 e9
                  have hjt : j < ts.length := by have := HMT.out; omega
                  have htj := HTX.out _ (List.getElem_mem hjt)
                  obtain ⟨tn, htn⟩ : ∃ tn : Nat, ts[j] = (tn : Int) := ⟨ts[j].toNat, by omega⟩
                  have htc := (int_cell HR4.out hjm).1
                  rw [List.getD_eq_getElem?_getD, List.getElem?_eq_getElem hjt, Option.getD_some, htn] at htc
                  have htl : tn < n := by omega
                  have hpi := (int_cell HM4.out.rp hin).1
                  have hpt := (int_cell HM4.out.rp htl).1
                  have hlt := HPX.out _ (List.getElem_mem hjt)
                  rw [htn, Int.toNat_natCast] at hlt
                  rw [← HVI.out] at hpi
                  generalize P.getD tn 0 = vt at hpt hlt
                  have hle : decide (vt ≤ vi) = false := decide_eq_false (by omega)
                  clear htj htn
                  have hle' : ¬ vt ≤ vi := by omega
                  go_wp2_with fail
                  go_quiet (fail)
                  have hbq := pw_below_drewN (Below.refl wr.heap.size wr) nq
                  have HM7 := Aside0.mk (HM4.out.step hbq)
                  have HR7 := Aside0.mk (Kd.R_below HR4.out hbq)
                  clear hbq hpi hpt htc
                  generalize wr.drewN nq = wd at HM7 HR7 ⊢
                  go_wp2_with fail
                  go_roundg (m - (j + 1))
                  case measure => omega
                  case rel => exact ⟨j + 1, by omega, by omega, by rw [show (j : Int) + 1 = ((j + 1 : Nat) : Int) by omega], HM7, HR7⟩
                · have hjm' : m = j := by omega
                  subst hjm'
                  go_wp2_with fail
                  go_roundg (n - (i + 1))
                  case measure => omega
                  case rel => exact ⟨i + 1, by omega, by omega, by rw [show (i : Int) + 1 = ((i + 1 : Nat) : Int) by omega], HM4⟩
            · go_wp2_with fail
              go_ret
              exact ⟨rfl, HM.out.below⟩
  · go_wp2
    go_ret
    exact ⟨rfl, HB1.out⟩
end Go.Proofs.Ytepjoiclfoopeaa.Pure
