/- VerifyLoops: a program whose targets and slots are right is refused just if there is a way of more steps without a byte than there are instructions; no condition. -/
import Derived.Test.YtepjoiclfoopeaaHVerifyLoopsx3
import Derived.Test.YtepjoiclfoopeaaXVerifyMeths
import Derived.Test.YtepjoiclfoopeaaXOpenProg
namespace Go.Proofs.Ytepjoiclfoopeaa.Pure
open Go.RowKit Go.Proofs.Ytepjoiclfoopeaa.HVerifyLoops Go.Proofs.YtepjoiclfoopeaaW.PrintWords Go.Proofs.YtepjoiclfoopeaaW.PrintLast
open Go.Proofs.YtepjoiclfoopeaaX
set_option linter.unusedVariables false
set_option linter.unusedSimpArgs false
theorem back_in (l : List S33) : (l.map inOf).map (fun x : I5 => (⟨x.1, x.2.1, x.2.2.1, x.2.2.2.1, x.2.2.2.2⟩ : S33)) = l := by
  rw [List.map_map]
  exact List.map_id'' (fun x => rfl) l
def toIn (x : I5) : S33 := ⟨x.1, x.2.1, x.2.2.1, x.2.2.2.1, x.2.2.2.2⟩
theorem forth_in (l : List I5) : (l.map toIn).map inOf = l := by
  rw [List.map_map]
  exact List.map_id'' (fun x => rfl) l
theorem toCI {A : Option Addr} {l : List I5} {w : World} (h : Kd.C kIn w A l.length l) : Kd.C k33 w A (l.map toIn).length (l.map toIn) := by
  rw [List.length_map]
  exact (C_iso (d := kIn) (f := inOf)).2 (by rw [forth_in]; exact h)
theorem check_f (k : Nat) (l : List S33) (a b : Int) : prog_Check.f (k + 1) l a b = some (checkC (l.map inOf) a b) := by
  unfold prog_Check.f checkC
  rw [List.length_map]
  have hj : ∀ q : Bool, q = true → prog_Check.j0 (k + 1) q l a b = some 130 := by
    intro q hq
    simp only [prog_Check.j0]
    rw [if_pos hq]
  by_cases h1 : (l.length : Int) < 1
  · rw [if_pos h1, hj _ rfl, if_neg (by omega)]
  · by_cases h2 : (l.length : Int) > 4000
    · rw [if_neg h1, if_pos h2, hj _ rfl, if_neg (by omega)]
    · rw [if_neg h1, if_neg h2, place_f]
      simp only [Option.bind_some]
      by_cases h3 : 0 ≤ a ∧ a < 4000
      · rw [decide_eq_true h3, if_pos rfl]
        by_cases h4 : b < 0
        · rw [if_pos h4, hj _ rfl, if_neg (by omega)]
        · rw [if_neg h4]
          by_cases h5 : b > 64
          · rw [hj _ (decide_eq_true h5), if_neg (by omega)]
          · rw [decide_eq_false h5]
            simp only [prog_Check.j0]
            rw [if_neg (by decide), show ext_badInsts.f l () = some ((l.map ofIn).any fun x => !fitsB x) by unfold ext_badInsts.f; rw [if_pos (by omega)]]
            simp only [Option.bind_some]
            have e : (l.map ofIn).any (fun x => !fitsB x) = !((l.map inOf).all fitsB) := by
              rw [List.all_eq_not_any_not]
              simp
            rw [e]
            cases h6 : (l.map inOf).all fitsB
            · rw [Bool.not_false, if_pos rfl, if_neg (by simp)]
            · rw [Bool.not_true, if_neg (by decide), if_pos ⟨by omega, by omega, h3, by omega, by omega, rfl⟩]
      · rw [decide_eq_false h3, if_neg (by decide), hj _ rfl, if_neg (fun g => h3 g.2.2.1)]
theorem checkC_ok {l : List I5} {a b : Int} (h : checkC l a b = 0) : 1 ≤ l.length ∧ l.length ≤ 4000 ∧ (0 ≤ a ∧ a < 4000) ∧ 0 ≤ b ∧ b ≤ 64 ∧ l.all fitsB = true := by
  unfold checkC at h
  split at h
  · assumption
  · omega
theorem fits_xy {x : I5} (h : fitsB x = true) : (0 ≤ x.2.2.2.1 ∧ x.2.2.2.1 < 4000) ∧ (0 ≤ x.2.2.2.2 ∧ x.2.2.2.2 < 4000) := by
  unfold fitsB at h
  simp only [Bool.and_eq_true, decide_eq_true_eq] at h
  exact ⟨h.2.2.1, h.2.2.2.1⟩
theorem led_ok {l : List I5} {a b : Int} (h : checkC l a b = 0) (ht : targetsB l a = true) : ledB l = true := by
  rw [ledB_iff]
  intro x hx t htx
  have hf := List.all_eq_true.1 (checkC_ok h).2.2.2.2.2 x hx
  have hxy := fits_xy hf
  unfold targetsB at ht
  simp only [Bool.and_eq_true, Bool.not_eq_true'] at ht
  have hp : pastB l.length x = false := by
    rw [Bool.eq_false_iff]
    intro g
    rw [List.any_eq_true.2 ⟨x, hx, g⟩] at ht
    exact absurd ht.2 (by decide)
  have hlt : t < l.length := by
    unfold pastB at hp
    rw [Bool.eq_false_iff] at hp
    by_cases g : t < l.length
    · exact g
    · exact absurd (List.any_eq_true.2 ⟨t, htx, decide_eq_true (by omega)⟩) hp
  refine ⟨?_, hlt⟩
  unfold leadsV at htx
  repeat' split at htx
  all_goals simp at htx
  all_goals omega
theorem look_f (k : Nat) (l : List S33) (a b : Int) : verify_look.f (k + 1) l a b = some (lookC (l.map inOf) a b) := by
  unfold verify_look.f lookC
  rw [check_f]
  simp only [Option.bind_some]
  by_cases h0 : checkC (l.map inOf) a b = 0
  · have hk := checkC_ok h0
    rw [List.length_map] at hk
    rw [if_pos h0, if_neg (fun g => g h0), show verify_targets.f l a b = some (targetsB (l.map inOf) a) by unfold verify_targets.f; rw [if_pos (by omega)]]
    simp only [Option.bind_some]
    cases ht : targetsB (l.map inOf) a with
    | false => rw [if_neg (by decide), if_pos rfl]
    | true =>
      rw [if_pos rfl, if_neg (by decide), show verify_slots.f l a b = some (slotsB (l.map inOf) b) by unfold verify_slots.f; rw [if_pos (by omega)]]
      simp only [Option.bind_some]
      cases hs : slotsB (l.map inOf) b with
      | false => rw [if_neg (by decide), if_pos rfl]
      | true =>
        rw [if_pos rfl, if_neg (by decide), show verify_ordered.f l a b = some ((ordL (l.map inOf)).getD [], (ordL (l.map inOf)).isSome) by unfold verify_ordered.f; rw [if_pos ⟨by omega, by omega, led_ok h0 ht⟩]]
        simp only [Option.bind_some]
        cases ordL (l.map inOf) with
        | none => rw [if_neg (by simp)]
        | some o => rw [if_pos (by simp)]; rfl
  · rw [if_neg h0, if_pos h0]
    have : checkC (l.map inOf) a b = 130 := by
      unfold checkC at h0 ⊢
      split
      · rename_i g; rw [if_pos g] at h0; exact absurd rfl h0
      · rfl
    rw [this]
theorem lookAt : LookAt := by
  intro A c l a b w hC hc
  have := verify_look.calls 1 A c (l.map toIn) a b _ _ w (toCI hC) (by rw [List.length_map]; exact hc) (look_f 0 (l.map toIn) a b)
  rw [List.length_map, forth_in] at this
  exact this
theorem vcheck_at {A : Option Addr} {c : Nat} {l : List I5} {a b : Int} {w : World} (hC : Kd.C kIn w A l.length l) (hc : l.length ≤ c) : Calls Try.prog 11 #[.agg #[.slice A l.length c, .int .i64 a, .int .i64 b]] w fun e w' => e = .returned (.int .i64 (lookC l a b).2) ∧ Below w.heap.size w w' := by
  have := verify_Check.calls 1 A c (l.map toIn) a b (lookC l a b).2 w (toCI hC) (by rw [List.length_map]; exact hc) (by unfold verify_Check.f; rw [look_f, forth_in]; rfl)
  rw [List.length_map] at this
  exact this
theorem look_len {l : List I5} {a b : Int} (h : (lookC l a b).2 = 0) : checkC l a b = 0 ∧ targetsB l a = true ∧ slotsB l b = true ∧ ∃ o, ordL l = some o ∧ (lookC l a b).1 = o := by
  unfold lookC at h ⊢
  by_cases h0 : checkC l a b ≠ 0
  · rw [if_pos h0] at h; exact absurd h (by decide)
  · rw [if_neg h0] at h ⊢
    cases ht : targetsB l a with
    | false => rw [ht, if_pos rfl] at h; exact absurd h (by decide)
    | true =>
      rw [ht, if_neg (by decide)] at h
      rw [if_neg (by decide)]
      cases hs : slotsB l b with
      | false => rw [hs, if_pos rfl] at h; exact absurd h (by decide)
      | true =>
        rw [hs, if_neg (by decide)] at h
        rw [if_neg (by decide)]
        cases ho : ordL l with
        | none => rw [ho] at h; exact absurd h (by decide)
        | some o => exact ⟨by omega, rfl, rfl, o, rfl, rfl⟩
theorem new_at {A : Option Addr} {c : Nat} {l : List I5} {a b : Int} {w : World} (hC : Kd.C kIn w A l.length l) (hc : l.length ≤ c) : Calls Try.prog 8 #[.agg #[.slice A l.length c, .int .i64 a, .int .i64 b]] w (NewPost w l a b) :=
  new_any lookAt A c l a b w hC hc (fun h => (checkC_ok (look_len h).1).2.1)
theorem rows_C {W : World} {B n : Nat} {l : List I5} (h : W.heap[B]? = some (.cells (l.flatMap encInst).toArray 33 (0, 0))) (hn : l.length = n) (hm : n ≤ 4000) : Kd.C kIn W (some ⟨B, 0, none⟩) n l := by
  subst hn
  have hlen := flat_len (enc := encInst) 5 (fun _ => rfl) l
  have : Kd.R kIn 33 W 0 (fun _ => True) (.slice (some ⟨B, 0, none⟩) l.length l.length) l := (fixed_R kIn_fixed).2 ⟨fun _ _ => trivial, hlen, .inr ⟨B, l.length, _, rfl, Nat.zero_le _, h, Nat.le_refl _, by unfold maxLen; omega, by rw [List.size_toArray]; exact hlen, by rw [List.toList_toArray, ← show (l.flatMap encInst).length = l.length * kIn.sz from hlen]; exact List.take_length⟩⟩
  exact (Kd.R_reads' this).2.2
theorem sameI_l0 (s : List Int) (hn : s.length ≤ 2000000) (d : Nat) : ∀ i : Nat, i ≤ s.length → s.length - i = d → Ev (fun k => burinbook_SameInts.l0 k s s true i) true := by
  induction d with
  | zero =>
    intro i hi hd
    refine Ev.step (fun k => ?_) (Ev.now _)
    simp only [burinbook_SameInts.l0]
    rw [if_pos trivial, if_neg (by omega)]
  | succ d ih =>
    intro i hi hd
    refine Ev.step (fun k => ?_) (ih (i + 1) (by omega) (by omega))
    simp only [burinbook_SameInts.l0]
    rw [if_pos trivial, if_pos (by omega), if_pos (by omega), if_pos (by omega), wrap_v (x := (i : Int) + 1) (y := ((i + 1 : Nat) : Int)) (by omega) (by omega) (by omega)]
    simp
theorem sameI_ev (s : List Int) (hn : s.length ≤ 2000000) : Ev (fun k => burinbook_SameInts.f k s s) true := by
  have := sameI_l0 s hn _ 0 (Nat.zero_le _) rfl
  unfold burinbook_SameInts.f
  simpa using this
theorem sameI_at {A A' : Option Addr} {c c' : Nat} {s : List Int} {w : World} (hn : s.length ≤ 2000000) (h : Kd.C (Kd.int .i64) w A s.length s) (hc : s.length ≤ c) (h' : Kd.C (Kd.int .i64) w A' s.length s) (hc' : s.length ≤ c') :
    Calls Try.prog 21 #[.slice A s.length c, .slice A' s.length c'] w (fun e w' => e = .returned (.bool true) ∧ Below w.heap.size w w') := by
  obtain ⟨k, hk⟩ := Ev.rounds (sameI_ev s hn)
  exact (burinbook_SameInts.calls k A c s A' c' s true w h hc h' hc' hk).mono fun e w' ⟨he, hd⟩ => ⟨he, hd.below⟩
theorem reached_at {W : World} {g : Nat} {l : List I5} {a b : Int} {o r : List Int} (h : Ck W g l a b o) (hr : ∃ k, verify_Checked_Reached.f k (l.map toIn) a b o = some (r, a, b)) :
    Calls Try.prog 20 #[.pointer (some ⟨g, 0, none⟩)] W fun e w' => ∃ v, e = .returned v ∧ Kd.R (Kd.int .i64) 3 w' W.heap.size (fun _ => True) v r ∧ Ck w' g l a b o ∧ ∀ base, base ≤ g → base ≤ W.heap.size → Below base W w' := by
  obtain ⟨w0, A0, c0, A3, c3, h1, h2, h3, h4, h5⟩ := h
  obtain ⟨k, hk⟩ := hr
  refine (verify_Checked_Reached.calls k g (l.map toIn) a b o r a b w0 W ⟨A0, c0, A3, c3, by rw [List.length_map]; exact h1, h2, toCI h4 |> fun h => by rw [List.length_map] at h ⊢; exact h, h5⟩ h3 hk).mono fun e w' h => ?_
  obtain ⟨v, he, hR, ⟨B0, d0, B3, d3, g1, g2, g3, g4⟩, hb, hk⟩ := h
  rw [List.length_map] at g1 g3
  refine ⟨v, he, hR, ⟨w0, B0, d0, B3, d3, g1, h2, hb, ?_, g4⟩, fun base hbg hbW => ⟨hb.os.trans h3.os.symm, hb.tape.trans h3.tape.symm, hb.output.trans h3.output.symm, hk.1, fun j hj => hk.2 j (by omega) (by omega) (by simp)⟩⟩
  have := (C_iso (d := kIn) (f := inOf)).1 g3
  rwa [forth_in] at this
theorem two_loop : lookC [(2, 0, 0, 0, 1), (5, 0, 0, 0, 0)] 0 2 = ([], 151) := by decide +kernel
theorem one_fine : lookC [(1, 0, 255, 0, 0)] 0 2 = ([0], 0) := by decide +kernel
theorem one_reached : ∃ k, verify_Checked_Reached.f k ([(1, 0, 255, 0, 0)].map toIn) 0 2 [0] = some ([0], 0, 2) := ⟨6, by decide +kernel⟩
theorem al_old {w : World} {o x : Obj} {k : Nat} (h : w.heap[k]? = some x) : (w.alloc o).heap[k]? = some x := (((Below.refl _ w).alloc (Nat.le_refl _) o).block _ (blk_lt h)).trans h
theorem ints_C {W : World} {B n : Nat} {l : List Int} (h : W.heap[B]? = some (.cells (l.flatMap encInt).toArray 3 (0, 0))) (hn : l.length = n) (hm : n ≤ 4000) : Kd.C (Kd.int .i64) W (some ⟨B, 0, none⟩) n l := by
  subst hn
  have hlen := flat_len (enc := encInt) 1 (fun _ => rfl) l
  have : Kd.R (Kd.int .i64) 3 W 0 (fun _ => True) (.slice (some ⟨B, 0, none⟩) l.length l.length) l := (fixed_R kI_fixed).2 ⟨fun _ _ => trivial, hlen, .inr ⟨B, l.length, _, rfl, Nat.zero_le _, h, Nat.le_refl _, by unfold maxLen; omega, by rw [List.size_toArray]; exact hlen, by rw [List.toList_toArray, ← show (l.flatMap encInt).length = l.length * kI.sz from hlen]; exact List.take_length⟩⟩
  exact (Kd.R_reads' this).2.2
set_option maxHeartbeats 4000000 in
set_option maxRecDepth 100000 in
theorem works_at (w : World) : Calls Try.prog 7 #[] w (fun e w' => e = .returned (.bool true) ∧ Below w.heap.size w w') := by
  have b1 : ∀ W, (Instr.build 33 #[(0, .int .i64 2), (3, .int .i64 0), (4, .int .i64 1)]).run Try.prog W = .ok (.agg #[.int .i64 2, .int .i64 0, .int .i64 0, .int .i64 0, .int .i64 1]) W := fun W => run_build W 33 _ _ (by kernel_rfl)
  have b2 : ∀ W, (Instr.build 33 #[(0, .int .i64 5)]).run Try.prog W = .ok (.agg #[.int .i64 5, .int .i64 0, .int .i64 0, .int .i64 0, .int .i64 0]) W := fun W => run_build W 33 _ _ (by kernel_rfl)
  have b3 : ∀ W, (Instr.build 33 #[(0, .int .i64 1), (2, .int .i64 255)]).run Try.prog W = .ok (.agg #[.int .i64 1, .int .i64 0, .int .i64 255, .int .i64 0, .int .i64 0]) W := fun W => run_build W 33 _ _ (by kernel_rfl)
  have b4 : ∀ W v, (Instr.build 24 #[(2, .int .i64 2), (0, .slice (some v) 2 2)]).run Try.prog W = .ok (.agg #[.slice (some v) 2 2, .int .i64 0, .int .i64 2]) W := fun W v => run_build W 24 _ _ (by kernel_rfl)
  have b5 : ∀ W v, (Instr.build 24 #[(2, .int .i64 2), (0, .slice (some v) 1 1)]).run Try.prog W = .ok (.agg #[.slice (some v) 1 1, .int .i64 0, .int .i64 2]) W := fun W v => run_build W 24 _ _ (by kernel_rfl)
  go_enter Try.func7, Try.ntmps7
  go_wp2_with fail
  generalize hw4 : (((w.alloc (.cells #[.int .i64 2, .int .i64 0, .int .i64 0, .int .i64 0, .int .i64 1, .int .i64 5, .int .i64 0, .int .i64 0, .int .i64 0, .int .i64 0] 33)).alloc (.cells #[.slice (some ⟨w.heap.size, 0, none⟩) 2 2, .int .i64 0, .int .i64 2] 24)).alloc (.cells #[.int .i64 1, .int .i64 0, .int .i64 255, .int .i64 0, .int .i64 0] 33)).alloc (.cells #[.slice (some ⟨w.heap.size + 1 + 1, 0, none⟩) 1 1, .int .i64 0, .int .i64 2] 24) = w4
  have hB : Below w.heap.size w w4 := by
    rw [← hw4]
    exact ((((Below.refl _ w).alloc (Nat.le_refl _) _).alloc (by simp) _).alloc (by simp; omega) _).alloc (by simp; omega) _
  have h0 : w4.heap[w.heap.size]? = some (.cells #[.int .i64 2, .int .i64 0, .int .i64 0, .int .i64 0, .int .i64 1, .int .i64 5, .int .i64 0, .int .i64 0, .int .i64 0, .int .i64 0] 33 (0, 0)) := by
    rw [← hw4]
    exact al_old (al_old (al_old (heap_alloc_last w _)))
  have h1 : w4.heap[w.heap.size + 1]? = some (.cells #[.slice (some ⟨w.heap.size, 0, none⟩) 2 2, .int .i64 0, .int .i64 2] 24 (0, 0)) := by
    rw [← hw4]
    exact al_old (al_old (heap_at (by simp)))
  have h2 : w4.heap[w.heap.size + 1 + 1]? = some (.cells #[.int .i64 1, .int .i64 0, .int .i64 255, .int .i64 0, .int .i64 0] 33 (0, 0)) := by
    rw [← hw4]
    exact al_old (heap_at (by simp))
  have HN := Aside0.mk (new_at (l := [(1, 0, 255, 0, 0)]) (a := 0) (b := 2) (c := 1) (rows_C (n := 1) h2 rfl (by decide)) (by decide))
  have HB := Aside0.mk hB
  have H0 := Aside0.mk h0
  have H1 := Aside0.mk h1
  clear hB h0 h1 h2 hw4 b1 b2 b3 b4 b5
  refine HN.out.mono ?_
  rintro e w5 hpost
  rcases hpost with ⟨hne, _⟩ | ⟨_, g, rfl, hg, hck, hb5⟩
  · exact absurd (by rw [one_fine]) hne
  rw [one_fine] at hck
  have HK := Aside0.mk hck
  have HB5 := Aside0.mk (HB.out.trans (hb5.mono HB.out.size))
  have HG := Aside0.mk (show w.heap.size ≤ g from Nat.le_trans HB.out.size hg)
  have k0 : w5.cell? ⟨w.heap.size + 1, 0, none⟩ = some (.slice (some ⟨w.heap.size, 0, none⟩) 2 2) := (hb5.cell (p := ⟨w.heap.size + 1, 0, none⟩) (blk_lt H1.out)).trans ((blk_cell H1.out 0).trans rfl)
  have k1 : w5.cell? ⟨w.heap.size + 1, 1, none⟩ = some (.int .i64 0) := (hb5.cell (p := ⟨w.heap.size + 1, 1, none⟩) (blk_lt H1.out)).trans ((blk_cell H1.out 1).trans rfl)
  have k2 : w5.cell? ⟨w.heap.size + 1, 2, none⟩ = some (.int .i64 2) := (hb5.cell (p := ⟨w.heap.size + 1, 2, none⟩) (blk_lt H1.out)).trans ((blk_cell H1.out 2).trans rfl)
  have HC := Aside0.mk (vcheck_at (w := w5) (l := [(2, 0, 0, 0, 1), (5, 0, 0, 0, 0)]) (a := 0) (b := 2) (c := 2) (rows_C (n := 2) ((hb5.block _ (blk_lt H0.out)).trans H0.out) rfl (by decide)) (by decide))
  rw [two_loop] at HC
  clear hck hb5 hg HN HB
  go_wp2_with fail
  refine HC.out.mono ?_
  rintro e w6 ⟨rfl, hb6⟩
  have HK6 := Aside0.mk (HK.out.step hb6)
  have HB6 := Aside0.mk (HB5.out.trans (hb6.mono HB5.out.size))
  clear hb6 HK HB5 HC k0 k1 k2
  go_wp2_with fail
  refine (len_at HK6.out).mono ?_
  rintro e w' ⟨rfl, rfl⟩
  go_wp2_with fail
  refine (slots_at HK6.out).mono ?_
  rintro e w' ⟨rfl, rfl⟩
  go_wp2_with fail
  refine (order_at HK6.out (by decide)).mono ?_
  rintro e w7 ⟨v7, rfl, hR7, hb7⟩
  obtain ⟨A7, c7, rfl⟩ := Kd.R_slice hR7
  have HR7 := Aside0.mk hR7
  have HK7 := Aside0.mk (HK6.out.step hb7)
  have HB7 := Aside0.mk (HB6.out.trans (hb7.mono HB6.out.size))
  clear hR7 hb7 HK6 HB6
  go_wp2_with fail
  have hal := heap_alloc_last w7 (.cells #[.int .i64 0] 3)
  have hab := (Below.refl _ w7).alloc (Nat.le_refl _) (.cells #[.int .i64 0] 3)
  refine (sameI_at (s := [0]) (by decide) (Kd.C_below (Kd.R_reads' HR7.out).2.2 hab) (Kd.R_reads' HR7.out).2.1 (ints_C (n := 1) (l := [0]) hal rfl (by decide)) (by decide)).mono ?_
  rintro e w8 ⟨rfl, hb8⟩
  have hb78 := hab.trans (hb8.mono hab.size)
  have HK8 := Aside0.mk (HK7.out.step hb78)
  have HB8 := Aside0.mk (HB7.out.trans (hb78.mono HB7.out.size))
  clear hb8 hab hal hb78 HK7 HB7 HR7
  go_wp2_with fail
  refine (reached_at HK8.out one_reached).mono ?_
  rintro e w9 ⟨v9, rfl, hR9, _, hb9⟩
  obtain ⟨A9, c9, rfl⟩ := Kd.R_slice hR9
  have HR9 := Aside0.mk hR9
  have HB9 := Aside0.mk (HB8.out.trans (hb9 w.heap.size HG.out HB8.out.size))
  clear hR9 hb9 HK8 HB8
  go_wp2_with fail
  have hal := heap_alloc_last w9 (.cells #[.int .i64 0] 3)
  have hab := (Below.refl _ w9).alloc (Nat.le_refl _) (.cells #[.int .i64 0] 3)
  refine (sameI_at (s := [0]) (by decide) (Kd.C_below (Kd.R_reads' HR9.out).2.2 hab) (Kd.R_reads' HR9.out).2.1 (ints_C (n := 1) (l := [0]) hal rfl (by decide)) (by decide)).mono ?_
  rintro e w10 ⟨rfl, hb10⟩
  have HB10 := Aside0.mk (HB9.out.trans ((hab.trans (hb10.mono hab.size)).mono HB9.out.size))
  clear hb10 hab hal HB9 HR9
  go_wp2
  go_ret
  exact ⟨rfl, HB10.out⟩
def mark1 (b : Bool) (st : List Bool × Bool) (t : Int) : List Bool × Bool := if b then (st.1.set t.toNat true, true) else st
def z5 : I5 := (0, 0, 0, 0, 0)
/-- One round: what is led to by what is marked. -/
def roundL (l : List I5) (at_ : List Bool) (i : Nat) : List Bool × Bool := (List.range i).foldl (fun st i => (freeN (l.getD i z5)).foldl (mark1 (at_.getD i false)) st) (List.replicate l.length false, false)
def rounds (l : List I5) : Nat → List Bool × Bool → List Bool × Bool
  | 0, s => s
  | k + 1, s => rounds l k (roundL l s.1 l.length)
theorem mark_len (b : Bool) (ts : List Int) : ∀ st : List Bool × Bool, (ts.foldl (mark1 b) st).1.length = st.1.length := by
  induction ts with
  | nil => intro st; rfl
  | cons t ts ih => intro st; rw [List.foldl_cons, ih]; unfold mark1; split <;> simp
theorem roundL_len (l : List I5) (at_ : List Bool) (i : Nat) : (roundL l at_ i).1.length = l.length := by
  unfold roundL
  induction i with
  | zero => simp
  | succ i ih => rw [List.range_succ, List.foldl_append, List.foldl_cons, List.foldl_nil, mark_len, ih]
theorem roundL_succ (l : List I5) (at_ : List Bool) (i : Nat) : roundL l at_ (i + 1) = (freeN (l.getD i z5)).foldl (mark1 (at_.getD i false)) (roundL l at_ i) := by
  unfold roundL
  rw [List.range_succ, List.foldl_append]
  rfl
theorem getD_set {α : Type} (l : List α) (i j : Nat) (v d : α) (hi : i < l.length) : (l.set i v).getD j d = if j = i then v else l.getD j d := by
  rw [List.getD_eq_getElem?_getD, List.getElem?_set, List.getD_eq_getElem?_getD]
  by_cases h : j = i
  · subst h; simp [hi]
  · rw [if_neg (fun e => h e.symm), if_neg h]
theorem mark_at (b : Bool) (ts : List Int) : ∀ (st : List Bool × Bool), (∀ t ∈ ts, 0 ≤ t ∧ t < st.1.length) → (∀ t : Nat, (ts.foldl (mark1 b) st).1.getD t false = true ↔ (st.1.getD t false = true ∨ (b = true ∧ (t : Int) ∈ ts))) ∧ ((ts.foldl (mark1 b) st).2 = true ↔ (st.2 = true ∨ (b = true ∧ ts ≠ []))) := by
  induction ts with
  | nil => intro st _; simp
  | cons x ts ih =>
    intro st h
    rw [List.foldl_cons]
    have hx := h x (by simp)
    cases b with
    | false =>
      have hm : mark1 false st x = st := rfl
      rw [hm]
      have := ih st (fun t ht => h t (by simp [ht]))
      simpa using this
    | true =>
      have hm : mark1 true st x = (st.1.set x.toNat true, true) := rfl
      rw [hm]
      have := ih (st.1.set x.toNat true, true) (fun t ht => by rw [List.length_set]; exact h t (by simp [ht]))
      refine ⟨fun t => ?_, by rw [this.2]; simp⟩
      rw [this.1 t, getD_set _ _ _ _ _ (by omega)]
      by_cases e : t = x.toNat
      · rw [if_pos e]
        have : (t : Int) = x := by omega
        simp [this]
      · rw [if_neg e]
        have : (t : Int) ≠ x := by omega
        simp [this]
def Led (l : List I5) : Prop := ∀ i, i < l.length → ∀ t ∈ freeN (l.getD i z5), 0 ≤ t ∧ t < l.length
theorem roundL_at (l : List I5) (hL : Led l) (at_ : List Bool) : ∀ i, i ≤ l.length → (∀ t : Nat, (roundL l at_ i).1.getD t false = true ↔ ∃ u, u < i ∧ at_.getD u false = true ∧ (t : Int) ∈ freeN (l.getD u z5)) ∧ ((roundL l at_ i).2 = true ↔ ∃ u, u < i ∧ at_.getD u false = true ∧ freeN (l.getD u z5) ≠ []) := by
  intro i
  induction i with
  | zero =>
    intro _
    refine ⟨fun t => ?_, ?_⟩
    · unfold roundL
      simp only [List.range_zero, List.foldl_nil]
      constructor
      · intro h
        rw [List.getD_eq_getElem?_getD, List.getElem?_replicate] at h
        split at h <;> simp at h
      · rintro ⟨u, h, _⟩; omega
    · unfold roundL
      simp only [List.range_zero, List.foldl_nil]
      constructor
      · intro h; exact absurd h (by decide)
      · rintro ⟨u, h, _⟩; omega
  | succ i ih =>
    intro hi
    have ih := ih (by omega)
    have hm := mark_at (at_.getD i false) (freeN (l.getD i z5)) (roundL l at_ i) (by rw [roundL_len]; exact hL i (by omega))
    rw [roundL_succ]
    refine ⟨fun t => ?_, ?_⟩
    · rw [hm.1 t, ih.1 t]
      constructor
      · rintro (⟨u, h1, h2, h3⟩ | ⟨h1, h2⟩)
        · exact ⟨u, by omega, h2, h3⟩
        · exact ⟨i, by omega, h1, h2⟩
      · rintro ⟨u, h1, h2, h3⟩
        by_cases e : u = i
        · subst e; exact .inr ⟨h2, h3⟩
        · exact .inl ⟨u, by omega, h2, h3⟩
    · rw [hm.2, ih.2]
      constructor
      · rintro (⟨u, h1, h2, h3⟩ | ⟨h1, h2⟩)
        · exact ⟨u, by omega, h2, h3⟩
        · exact ⟨i, by omega, h1, h2⟩
      · rintro ⟨u, h1, h2, h3⟩
        by_cases e : u = i
        · subst e; exact .inr ⟨h2, h3⟩
        · exact .inl ⟨u, by omega, h2, h3⟩
theorem rounds_long (l : List I5) (hL : Led l) (R : Nat → Prop) (h0 : ∃ t, t < l.length ∧ R t) (hR : ∀ t, t < l.length → R t → ∃ u, u < l.length ∧ R u ∧ (t : Int) ∈ freeN (l.getD u z5)) : ∀ k s, (∀ t, t < l.length → R t → s.1.getD t false = true) → (rounds l (k + 1) s).2 = true := by
  intro k
  induction k with
  | zero =>
    intro s hs
    show (roundL l s.1 l.length).2 = true
    obtain ⟨t, ht, hRt⟩ := h0
    obtain ⟨u, hu, hRu, hm⟩ := hR t ht hRt
    exact (roundL_at l hL s.1 _ (Nat.le_refl _)).2.2 ⟨u, hu, hs u hu hRu, fun e => by rw [e] at hm; simp at hm⟩
  | succ k ih =>
    intro s hs
    rw [rounds]
    refine ih _ (fun t ht hRt => ?_)
    obtain ⟨u, hu, hRu, hm⟩ := hR t ht hRt
    exact ((roundL_at l hL s.1 _ (Nat.le_refl _)).1 t).2 ⟨u, hu, hs u hu hRu, hm⟩
theorem rounds_short (l : List I5) (hL : Led l) (pos : Nat → Nat) (hp : ∀ t, t < l.length → pos t < l.length) (hR : ∀ t, t < l.length → ∀ u, u < l.length → (t : Int) ∈ freeN (l.getD u z5) → pos u < pos t) : ∀ k s d, (∀ t, t < l.length → s.1.getD t false = true → d ≤ pos t) → l.length < d + (k + 1) → (rounds l (k + 1) s).2 = false := by
  intro k
  induction k with
  | zero =>
    intro s d hs hd
    show (roundL l s.1 l.length).2 = false
    rw [Bool.eq_false_iff]
    intro h
    obtain ⟨u, hu, h1, h2⟩ := (roundL_at l hL s.1 _ (Nat.le_refl _)).2.1 h
    have := hs u hu h1
    have := hp u hu
    omega
  | succ k ih =>
    intro s d hs hd
    rw [rounds]
    refine ih _ (d + 1) (fun t ht h => ?_) (by omega)
    obtain ⟨u, hu, h1, h2⟩ := ((roundL_at l hL s.1 _ (Nat.le_refl _)).1 t).1 h
    have := hs u hu h1
    have := hR t ht u hu h2
    omega
/-- How often an instruction is led to by those not yet done. -/
def cntTo (l : List I5) (done : List Bool) (t : Nat) : Nat → Nat
  | 0 => 0
  | k + 1 => cntTo l done t k + (if done.getD k false then 0 else (freeN (l.getD k z5)).count (t : Int))
theorem cnt_set (l : List I5) (done : List Bool) (t i : Nat) (hi : i < done.length) (hd : done.getD i false = false) : ∀ k, cntTo l (done.set i true) t k + (if i < k then (freeN (l.getD i z5)).count (t : Int) else 0) = cntTo l done t k := by
  intro k
  induction k with
  | zero => simp [cntTo]
  | succ k ih =>
    rw [cntTo, cntTo, getD_set _ _ _ _ _ hi, ← ih]
    by_cases e : k = i
    · subst e
      rw [if_pos rfl, if_pos rfl, if_neg (Nat.lt_irrefl _), if_pos (Nat.lt_succ_self _), hd, if_neg (by decide)]
      all_goals omega
    · rw [if_neg e]
      by_cases h : i < k
      · rw [if_pos h, if_pos (show i < k + 1 by omega)]; omega
      · rw [if_neg h, if_neg (show ¬ i < k + 1 by omega)]
        all_goals omega
theorem cnt_zero (l : List I5) (done : List Bool) (t : Nat) : ∀ k, cntTo l done t k = 0 → ∀ u, u < k → done.getD u false = false → (t : Int) ∉ freeN (l.getD u z5) := by
  intro k
  induction k with
  | zero => intro _ u h; omega
  | succ k ih =>
    intro h u hu hd hm
    rw [cntTo] at h
    by_cases e : u = k
    · subst e
      rw [hd, if_neg (by decide)] at h
      have := List.count_pos_iff.2 hm
      omega
    · exact ih (by omega) u (by omega) hd hm
theorem cnt_pos (l : List I5) (done : List Bool) (t : Nat) : ∀ k, 0 < cntTo l done t k → ∃ u, u < k ∧ done.getD u false = false ∧ (t : Int) ∈ freeN (l.getD u z5) := by
  intro k
  induction k with
  | zero => intro h; simp [cntTo] at h
  | succ k ih =>
    intro h
    by_cases h0 : 0 < cntTo l done t k
    · obtain ⟨u, h1, h2⟩ := ih h0
      exact ⟨u, by omega, h2⟩
    · rw [cntTo] at h
      cases hd : done.getD k false with
      | true => rw [hd, if_pos rfl] at h; omega
      | false =>
        rw [hd, if_neg (by decide)] at h
        exact ⟨k, by omega, hd, List.count_pos_iff.1 (by omega)⟩
theorem incs_at (ts : List Int) : ∀ ins : List Int, (∀ t ∈ ts, 0 ≤ t ∧ t < ins.length) → ∀ t : Nat, (ts.foldl incAt ins).getD t 0 = ins.getD t 0 + (ts.count (t : Int) : Nat) := by
  induction ts with
  | nil => intro ins _ t; simp
  | cons x ts ih =>
    intro ins h t
    have hx := h x (by simp)
    rw [List.foldl_cons, ih _ (fun y hy => by unfold incAt; rw [List.length_set]; exact h y (by simp [hy])) t, incAt, getD_set _ _ _ _ _ (by omega), List.count_cons]
    by_cases e : t = x.toNat
    · have : (x == (t : Int)) = true := by rw [beq_iff_eq]; omega
      rw [if_pos e, this, if_pos rfl, e]; omega
    · have : (x == (t : Int)) = false := by rw [beq_eq_false_iff_ne]; omega
      rw [if_neg e, this, if_neg (by decide)]; omega
theorem decs_at (ts : List Int) : ∀ ins : List Int, (∀ t ∈ ts, 0 ≤ t ∧ t < ins.length) → ∀ t : Nat, (ts.foldl decAt ins).getD t 0 = ins.getD t 0 - (ts.count (t : Int) : Nat) := by
  induction ts with
  | nil => intro ins _ t; simp
  | cons x ts ih =>
    intro ins h t
    have hx := h x (by simp)
    rw [List.foldl_cons, ih _ (fun y hy => by unfold decAt; rw [List.length_set]; exact h y (by simp [hy])) t, decAt, getD_set _ _ _ _ _ (by omega), List.count_cons]
    by_cases e : t = x.toNat
    · have : (x == (t : Int)) = true := by rw [beq_iff_eq]; omega
      rw [if_pos e, this, if_pos rfl, e]; omega
    · have : (x == (t : Int)) = false := by rw [beq_eq_false_iff_ne]; omega
      rw [if_neg e, this, if_neg (by decide)]; omega
theorem flat_cnt (l : List I5) (t : Nat) : ∀ k, k ≤ l.length → ((l.take k).flatMap freeN).count (t : Int) = cntTo l (List.replicate l.length false) t k := by
  intro k
  induction k with
  | zero => intro _; simp [cntTo]
  | succ k ih =>
    intro hk
    rw [List.take_succ_eq_append_getElem (by omega), List.flatMap_append, List.count_append, ih (by omega), cntTo]
    have h1 : (List.replicate l.length false).getD k false = false := by
      rw [List.getD_eq_getElem?_getD, List.getElem?_replicate]; split <;> rfl
    have h2 : l.getD k z5 = l[k] := by rw [List.getD_eq_getElem?_getD, List.getElem?_eq_getElem (by omega)]; rfl
    rw [h1, if_neg (by decide), h2]
    simp
/-- What holds at the head of each round of the ordering. -/
structure Ord (l : List I5) (ins : List Int) (done : List Bool) : Prop where
  li : ins.length = l.length
  ld : done.length = l.length
  cnt : ∀ t, t < l.length → ins.getD t 0 = (cntTo l done t l.length : Nat)
theorem Ord.start (l : List I5) (hL : ∀ x ∈ l, ∀ t ∈ freeN x, 0 ≤ t ∧ t < l.length) : Ord l (freeL l) (List.replicate l.length false) := by
  refine ⟨freeL_len l, by simp, fun t ht => ?_⟩
  unfold freeL
  rw [incs_at _ _ (fun y hy => by
    rw [List.length_replicate]
    obtain ⟨x, hx, hy⟩ := List.mem_flatMap.1 hy
    exact hL x hx y hy), ← flat_cnt l t _ (Nat.le_refl _), List.take_length, List.getD_eq_getElem?_getD, List.getElem?_replicate, if_pos ht]
  simp
theorem Ord.next {l : List I5} {ins : List Int} {done : List Bool} (h : Ord l ins done) (hL : Led l) {i : Nat} (hi : i < l.length) (hd : done.getD i false = false) : Ord l ((freeN (l.getD i z5)).foldl decAt ins) (done.set i true) := by
  refine ⟨by rw [decs_len]; exact h.li, by rw [List.length_set]; exact h.ld, fun t ht => ?_⟩
  have hi' : i < done.length := by rw [h.ld]; exact hi
  rw [decs_at _ _ (fun y hy => by rw [h.li]; exact hL i hi y hy), h.cnt t ht, ← cnt_set l done t i hi' hd l.length, if_pos hi]
  omega
theorem find_opened {n i : Nat} {p : Nat → Bool} (h : (List.range n).find? p = some i) : i < n ∧ p i = true := ⟨List.mem_range.1 (List.mem_of_find?_eq_some h), List.find?_some h⟩
theorem ord_none (l : List I5) (hL : Led l) : ∀ f ins done out, Ord l ins done → done.count false = f → ordF l f ins done out = none → ∃ R : Nat → Prop, (∃ t, t < l.length ∧ R t) ∧ ∀ t, t < l.length → R t → ∃ u, u < l.length ∧ R u ∧ (t : Int) ∈ freeN (l.getD u z5) := by
  intro f
  induction f with
  | zero => intro ins done out _ _ h; exact absurd h (by simp [ordF])
  | succ f ih =>
    intro ins done out hO hc h
    rw [ordF] at h
    split at h
    · rename_i hf
      refine ⟨fun t => done.getD t false = false, ?_, fun t ht hRt => ?_⟩
      · have : false ∈ done := List.count_pos_iff.1 (by omega)
        obtain ⟨i, hi, e⟩ := List.mem_iff_getElem.1 this
        exact ⟨i, by rw [← hO.ld]; exact hi, by show done.getD i false = false; rw [List.getD_eq_getElem?_getD, List.getElem?_eq_getElem hi, e]; rfl⟩
      · rw [List.find?_eq_none] at hf
        have := hf t (List.mem_range.2 ht)
        unfold openI at this
        simp only [hRt, Bool.not_false, Bool.and_true, decide_eq_true_eq] at this
        rw [hO.cnt t ht] at this
        exact cnt_pos l done t _ (by omega)
    · rename_i i hf
      obtain ⟨hi, ho⟩ := find_opened hf
      unfold openI at ho
      simp only [Bool.and_eq_true, Bool.not_eq_true', decide_eq_true_eq] at ho
      have hi' : i < done.length := by rw [hO.ld]; exact hi
      refine ih _ _ _ (hO.next hL hi ho.2) ?_ h
      rw [List.count_set hi']
      have : done[i] = false := by have := ho.2; rw [List.getD_eq_getElem?_getD, List.getElem?_eq_getElem hi'] at this; exact this
      simp [this]
      omega
theorem ord_some (l : List I5) (hL : Led l) : ∀ f ins done out r, Ord l ins done → done.count false = f → ordF l f ins done out = some r → ∃ pos : Nat → Nat, (∀ t, t < l.length → done.getD t false = false → pos t < f) ∧ ∀ t, t < l.length → done.getD t false = false → ∀ u, u < l.length → (t : Int) ∈ freeN (l.getD u z5) → done.getD u false = true ∨ pos u < pos t := by
  intro f
  induction f with
  | zero =>
    intro ins done out r hO hc _
    have hall : ∀ t, t < l.length → done.getD t false = false → False := by
      intro t ht h
      have ht' : t < done.length := by rw [hO.ld]; exact ht
      rw [List.getD_eq_getElem?_getD, List.getElem?_eq_getElem ht'] at h
      have : false ∈ done := by rw [← show done[t] = false from h]; exact List.getElem_mem _
      have := List.count_pos_iff.2 this
      omega
    exact ⟨fun _ => 0, fun t ht h => (hall t ht h).elim, fun t ht h => (hall t ht h).elim⟩
  | succ f ih =>
    intro ins done out r hO hc h
    rw [ordF] at h
    split at h
    · exact absurd h (by simp)
    · rename_i i hf
      obtain ⟨hi, ho⟩ := find_opened hf
      unfold openI at ho
      simp only [Bool.and_eq_true, Bool.not_eq_true', decide_eq_true_eq] at ho
      have hi' : i < done.length := by rw [hO.ld]; exact hi
      obtain ⟨pos, hp1, hp2⟩ := ih _ _ _ r (hO.next hL hi ho.2) (by
        rw [List.count_set hi']
        have : done[i] = false := by have := ho.2; rw [List.getD_eq_getElem?_getD, List.getElem?_eq_getElem hi'] at this; exact this
        simp [this]
        omega) h
      refine ⟨fun t => if t = i then 0 else pos t + 1, fun t ht hd => ?_, fun t ht hd u hu hm => ?_⟩
      · by_cases e : t = i
        · simp [e]
        · have := hp1 t ht (by rw [getD_set _ _ _ _ _ hi', if_neg e]; exact hd)
          simp only [if_neg e]
          omega
      · by_cases e : t = i
        · left
          rw [e] at hm
          cases hdu : done.getD u false with
          | true => rfl
          | false =>
            have h0 := ho.1
            rw [hO.cnt i hi] at h0
            exact absurd hm (cnt_zero l done i _ (by omega) u hu hdu)
        · rcases hp2 t ht (by rw [getD_set _ _ _ _ _ hi', if_neg e]; exact hd) u hu hm with h1 | h1
          · rw [getD_set _ _ _ _ _ hi'] at h1
            by_cases eu : u = i
            · right; simp [eu, e]
            · rw [if_neg eu] at h1; exact .inl h1
          · right
            by_cases eu : u = i
            · simp [eu, e]
            · simp only [if_neg e, if_neg eu]; omega
theorem led_of {l : List I5} (h : ∀ x ∈ l, ∀ t ∈ freeN x, 0 ≤ t ∧ t < l.length) : Led l := by
  intro i hi t ht
  rw [List.getD_eq_getElem?_getD, List.getElem?_eq_getElem hi] at ht
  exact h _ (List.getElem_mem hi) t ht
theorem loops_eq (l : List I5) (h : ∀ x ∈ l, ∀ t ∈ freeN x, 0 ≤ t ∧ t < l.length) : (rounds l (l.length + 1) (List.replicate l.length true, true)).2 = (ordL l).isNone := by
  have hL := led_of h
  have hs := Ord.start l h
  cases ho : ordL l with
  | none =>
    obtain ⟨R, h0, hR⟩ := ord_none l hL _ _ _ _ hs (by simp) ho
    refine rounds_long l hL R h0 hR l.length _ (fun t ht _ => ?_)
    rw [List.getD_eq_getElem?_getD, List.getElem?_replicate, if_pos ht]
    rfl
  | some r =>
    obtain ⟨pos, h1, h2⟩ := ord_some l hL _ _ _ _ r hs (by simp) ho
    have hf : ∀ t, t < l.length → (List.replicate l.length false).getD t false = false := fun t ht => by rw [List.getD_eq_getElem?_getD, List.getElem?_replicate, if_pos ht]; rfl
    refine rounds_short l hL pos (fun t ht => h1 t ht (hf t ht)) (fun t ht u hu hm => ?_) l.length _ 0 (fun t _ _ => Nat.zero_le _) (by omega)
    rcases h2 t ht (hf t ht) u hu hm with h3 | h3
    · rw [hf u hu] at h3; exact absurd h3 (by decide)
    · exact h3
theorem next_at (x : I5) (w : World) : Calls Try.prog 10 #[aggIn x] w fun e w' => ∃ v, e = .returned v ∧ Kd.R (Kd.int .i64) 3 w' w.heap.size (fun _ => True) v (freeN x) ∧ Below w.heap.size w w' := by
  refine burinlaw16_next.calls x.1 x.2.1 x.2.2.1 x.2.2.2.1 x.2.2.2.2 (freeN x) w ?_
  unfold burinlaw16_next.f freeN leadsV
  by_cases h2 : x.1 = 2
  · simp [h2]
  · by_cases h1 : x.1 = 1
    · simp [h1]
    · by_cases h3 : x.1 = 3
      · simp [h3]
      · by_cases h4 : x.1 = 4
        · simp [h4]
        · simp [h1, h2, h3, h4]
theorem ok_facts (l : List I5) (a b : Int) : ((lookC l a b).2 = 0 ∨ (lookC l a b).2 = 151) → 1 ≤ l.length ∧ (∀ x ∈ l, ∀ t ∈ freeN x, 0 ≤ t ∧ t < l.length) ∧ (rounds l (l.length + 1) (List.replicate l.length true, true)).2 = decide ((lookC l a b).2 = 151) := by
  intro h
  unfold lookC at h ⊢
  by_cases h0 : checkC l a b ≠ 0
  · rw [if_pos h0] at h; exact absurd h (by decide)
  · rw [if_neg h0] at h ⊢
    have h0' : checkC l a b = 0 := by omega
    cases ht : targetsB l a with
    | false => rw [ht, if_pos rfl] at h; exact absurd h (by decide)
    | true =>
      rw [ht, if_neg (by decide)] at h
      rw [if_neg (by decide)]
      have hT : ∀ x ∈ l, ∀ t ∈ freeN x, 0 ≤ t ∧ t < l.length := by
        intro x hx t htx
        have := ledB_iff.1 (led_ok h0' ht) x hx t
        unfold freeN at htx
        split at htx
        · simp at htx
        · exact this htx
      refine ⟨(checkC_ok h0').1, hT, ?_⟩
      rw [loops_eq l hT]
      cases hs : slotsB l b with
      | false => rw [hs, if_pos rfl] at h; exact absurd h (by decide)
      | true =>
        rw [if_neg (by decide)]
        cases ordL l <;> rfl
/-- What is at the head of each round. -/
structure LoopSt (w wr : World) (A : Option Addr) (n c : Nat) (a b : Int) (l : List I5) (ga ca : Nat) (at_ : List Bool) : Prop where
  box : wr.heap[w.heap.size]? = some (.cells #[.slice A n c, .int .i64 a, .int .i64 b] 24 (0, 0))
  below : Below w.heap.size w wr
  prog : Kd.C kIn wr A n l
  ra : Kd.R Kd.bool 4 wr w.heap.size (fun k => k = ga) (.slice (some ⟨ga, 0, none⟩) n ca) at_
  lt : w.heap.size < ga ∧ ga < wr.heap.size
/-- And within it: the row that is made. -/
structure MoreSt (w wr : World) (A : Option Addr) (n c : Nat) (a b : Int) (l : List I5) (ga ca : Nat) (at_ : List Bool) (gm cm : Nat) (more : List Bool) : Prop where
  st : LoopSt w wr A n c a b l ga ca at_
  rm : Kd.R Kd.bool 4 wr w.heap.size (fun k => k = gm) (.slice (some ⟨gm, 0, none⟩) n cm) more
  lm : w.heap.size < gm ∧ gm < wr.heap.size ∧ ga ≠ gm
section
variable {w wr : World} {A : Option Addr} {n c : Nat} {a b : Int} {l : List I5} {ga ca : Nat} {at_ : List Bool} {gm cm : Nat} {more : List Bool}
theorem LoopSt.step {w2 : World} (h : LoopSt w wr A n c a b l ga ca at_) (hb : Below wr.heap.size wr w2) : LoopSt w w2 A n c a b l ga ca at_ :=
  ⟨(hb.block _ (blk_lt h.box)).trans h.box, h.below.trans (hb.mono h.below.size), Kd.C_below h.prog hb, Kd.R_below h.ra hb, by have := h.lt; have := hb.size; omega⟩
theorem LoopSt.mark (h : LoopSt w wr A n c a b l ga ca at_) (hC : Kd.C kIn w A n l) (i : Nat) : LoopSt w (wr.setCell ⟨ga, i, none⟩ (.bool true)) A n c a b l ga ca (at_.set i true) := by
  have hl := h.lt
  have hb : Below w.heap.size w (wr.setCell ⟨ga, i, none⟩ (.bool true)) := h.below.setCell (p := ⟨ga, i, none⟩) (by show w.heap.size ≤ ga; omega) _
  refine ⟨(Below.heap_setCell wr ⟨ga, i, none⟩ _ _ (by show w.heap.size ≠ ga; omega)).trans h.box, hb, Kd.C_below hC hb, ?_, by simpa using hl⟩
  have := Kd.R_putn h.ra (i : Int) true
  rw [Int.toNat_natCast] at this
  exact this
theorem MoreSt.step {w2 : World} (h : MoreSt w wr A n c a b l ga ca at_ gm cm more) (hb : Below wr.heap.size wr w2) : MoreSt w w2 A n c a b l ga ca at_ gm cm more :=
  ⟨h.st.step hb, Kd.R_below h.rm hb, by have := h.lm; have := hb.size; omega⟩
theorem MoreSt.mark (h : MoreSt w wr A n c a b l ga ca at_ gm cm more) (hC : Kd.C kIn w A n l) (i : Nat) : MoreSt w (wr.setCell ⟨gm, i, none⟩ (.bool true)) A n c a b l ga ca at_ gm cm (more.set i true) := by
  have hl := h.lm
  have hs := h.st.lt
  have hb : Below w.heap.size w (wr.setCell ⟨gm, i, none⟩ (.bool true)) := h.st.below.setCell (p := ⟨gm, i, none⟩) (by show w.heap.size ≤ gm; omega) _
  refine ⟨⟨(Below.heap_setCell wr ⟨gm, i, none⟩ _ _ (by show w.heap.size ≠ gm; omega)).trans h.st.box, hb, Kd.C_below hC hb, Kd.R_far h.st.ra (fun k hk => by show k ≠ gm; omega) _, by simpa using hs⟩, ?_, by simpa using hl⟩
  have := Kd.R_putn h.rm (i : Int) true
  rw [Int.toNat_natCast] at this
  exact this
end
theorem free_len (x : I5) : (freeN x).length ≤ 2 := by
  unfold freeN
  split
  · simp
  · exact leads_len x
set_option maxHeartbeats 8000000 in
set_option maxRecDepth 100000 in
theorem VerifyLoops_walk (A : Option Addr) (c : Nat) (l : List I5) (a b : Int) (w : World) (hC : Kd.C kIn w A l.length l) (hc : l.length ≤ c) (hG : l.length ≤ maxLen ∧ ∀ y ∈ l, wf5 y) (ha : wfI a) (hb : wfI b) :
    Calls Try.prog 4 #[.agg #[.slice A l.length c, .int .i64 a, .int .i64 b]] w (fun e w' => e = .returned (.bool true) ∧ Below w.heap.size w w') := by
  obtain ⟨w0, hw0⟩ : ∃ w0, w0 = w.alloc (.cells #[.slice A l.length c, .int .i64 a, .int .i64 b] 24) := ⟨_, rfl⟩
  have hb0 : Below w.heap.size w w0 := by rw [hw0]; exact (Below.refl _ w).alloc (Nat.le_refl _) _
  have hl0 : w0.heap[w.heap.size]? = some (.cells #[.slice A l.length c, .int .i64 a, .int .i64 b] 24 (0, 0)) := by rw [hw0]; exact heap_alloc_last w _
  have HB := Aside0.mk hb0
  have HP := Aside0.mk hl0
  have HW := Aside0.mk (works_at w0)
  have HC := Aside0.mk (Kd.C_below hC hb0)
  have HV := Aside0.mk (fun (W : World) (h : Kd.C kIn W A l.length l) => vcheck_at (a := a) (b := b) (w := W) h hc)
  have hcode : (lookC l a b).2 = 0 ∨ (lookC l a b).2 = 130 ∨ (lookC l a b).2 = 150 ∨ (lookC l a b).2 = 151 ∨ (lookC l a b).2 = 152 := by
    unfold lookC
    repeat' split
    all_goals simp
  obtain ⟨code, hcd⟩ : ∃ code, code = (lookC l a b).2 := ⟨_, rfl⟩
  have HCD := Aside0.mk hcd
  have HOK := Aside0.mk (ok_facts l a b)
  rw [← hcd] at HV hcode HOK
  obtain ⟨n, hn⟩ : ∃ n, l.length = n := ⟨_, rfl⟩
  have HLN := Aside0.mk hn
  rw [hn] at HC HP HV HOK hc hw0 hG hC ⊢
  have hnm : n ≤ maxLen := hG.1
  have HCW := Aside0.mk hC
  clear hb0 hl0 hC hn hcd hG
  go_enter Try.func4, Try.ntmps4
  go_wp2_with fail
  rw [← hw0]
  refine HW.out.mono ?_
  rintro e w1 ⟨rfl, hb1⟩
  have HB1 := Aside0.mk (HB.out.trans (hb1.mono HB.out.size))
  have HC1 := Aside0.mk (Kd.C_below HC.out hb1)
  have HP1 := Aside0.mk ((hb1.block _ (blk_lt HP.out)).trans HP.out)
  have p0 : w1.cell? ⟨w.heap.size, 0, none⟩ = some (.slice A n c) := (blk_cell HP1.out 0).trans rfl
  have p1 : w1.cell? ⟨w.heap.size, 1, none⟩ = some (.int .i64 a) := (blk_cell HP1.out 1).trans rfl
  have p2 : w1.cell? ⟨w.heap.size, 2, none⟩ = some (.int .i64 b) := (blk_cell HP1.out 2).trans rfl
  clear hb1 HB HP HC HW hw0
  go_wp2_with fail
  refine (HV.out _ HC1.out).mono ?_
  rintro e w2 ⟨rfl, hb2⟩
  have HB2 := Aside0.mk (HB1.out.trans (hb2.mono HB1.out.size))
  have HC2 := Aside0.mk (Kd.C_below HC1.out hb2)
  have HP2 := Aside0.mk ((hb2.block _ (blk_lt HP1.out)).trans HP1.out)
  clear p0 p1 p2 hb2 HB1 HC1 HP1 HV
  have p0 : w2.cell? ⟨w.heap.size, 0, none⟩ = some (.slice A n c) := (blk_cell HP2.out 0).trans rfl
  by_cases h60 : n ≤ 60
  · have hbad : code ≠ 0 → code ≠ 151 → code = 130 ∨ code = 150 ∨ code = 152 := by omega
    rcases hcode with rfl | rfl | rfl | rfl | rfl
    case inr.inl => go_wp2; go_ret; exact ⟨rfl, HB2.out⟩
    case inr.inr.inl => go_wp2; go_ret; exact ⟨rfl, HB2.out⟩
    case inr.inr.inr.inr => go_wp2; go_ret; exact ⟨rfl, HB2.out⟩
    all_goals
      have hn1 : 1 ≤ n := (HOK.out (by decide)).1
      have HT := Aside0.mk (HOK.out (by decide)).2.1
      have HFIN := Aside0.mk (HOK.out (by decide)).2.2
      clear hbad HOK HCD
      go_wp2_with ((with_reducible refine gate_dst (N := 31) rfl ?_); refine Kd.R_make Kd.bool (w0 := w) w.heap.size 4 rfl (N := 31) rfl 37 _ _ rfl (n : Int) rfl rfl Try.underlying37 (.bool false) 1 info_bool rfl (by decide) (by omega) false (ok := fun k => w2.heap.size ≤ k) (okp := fun k => w2.heap.size ≤ k) rfl (fun _ hk => hk) (Nat.le_refl _) (by omega) (by omega) HB2.out HB2.out.size ?_; intro v3 w3 hD hb3 hg3 hn3)
      obtain ⟨ga, ca, rfl, hga, hga2, _⟩ := Kd.R_form hD (by simp; omega)
      rw [show (List.replicate (n : Int).toNat false).length = n by simp] at hD ⊢
      rw [Int.toNat_natCast] at hD
      have hbb : Below w2.heap.size w2 w3 := (Below.refl _ w2).grown hg3 (Nat.le_refl _) (fun k h => by cases h)
      have HO := Aside0.mk (LoopSt.mk ((hbb.block _ (blk_lt HP2.out)).trans HP2.out) hb3 (Kd.C_below HC2.out hbb) (show Kd.R Kd.bool 4 w3 w.heap.size (fun k => k = ga) (.slice (some ⟨ga, 0, none⟩) n ca) (List.replicate n false) from ⟨fun k hk => by simp [Value.ownBlock] at hk; exact hk.symm, by obtain ⟨_, inner, ho, hr⟩ := hD; exact ⟨inner, ho, hr⟩⟩) ⟨by have := HB2.out.size; have := blk_lt HP2.out; have := hD.1 ga rfl; omega, hga2⟩)
      clear hD hb3 hg3 hn3 hbb p0 HP2 HC2 HB2 hga hga2
      have hlen : ∀ (W : World) (g n c : Nat), (Builtin.len_ #[37] 3 #[.slice (some ⟨g, 0, none⟩) n c]).run Try.prog W = .ok (goInt n) W := fun W g n c => by simp [Builtin.len_, run_underlying Try.underlying37]
      have hu := Try.underlying37
      go_wp2_with fail
      rw [hlen]
      go_wp2_with fail
      go_loopg [34] n (fun gq s34 wr => ∃ i : Nat, i ≤ n ∧ n - i ≤ gq ∧ s34 = .int .i64 i ∧ Aside0 (LoopSt w wr A n c a b l ga ca (List.replicate i true ++ List.replicate (n - i) false)))
      case atStart => exact ⟨0, by omega, by omega, rfl, HO⟩
      case round =>
        clear HO
        obtain ⟨i, hi, hgq, rfl, HO⟩ := hrel
        by_cases hin : i < n
        · have hci := bool_cell HO.out.ra hin
          have hc1 := hci.1
          have hf1 := hci.2
          have HM := Aside0.mk (HO.out.mark HCW.out i)
          have he : (List.replicate i true ++ List.replicate (n - i) false).set i true = List.replicate (i + 1) true ++ List.replicate (n - (i + 1)) false := by
            apply List.ext_getElem?
            intro j
            simp only [List.getElem?_set, List.getElem?_append, List.getElem?_replicate, List.length_append, List.length_replicate]
            repeat' split
            all_goals first | rfl | omega
          rw [he] at HM
          clear hci he
          generalize (List.replicate i true ++ List.replicate (n - i) false).getD i false = bb at hc1
          go_wp2_with fail
          go_roundg (n - (i + 1))
          case measure => omega
          case rel => exact ⟨i + 1, by omega, by omega, by rw [show (i : Int) + 1 = ((i + 1 : Nat) : Int) by omega], HM⟩
        · have hni : n = i := by omega
          subst hni
          have HO1 := Aside0.mk (show LoopSt w wr A n c a b l ga ca (List.replicate n true) by have := HO.out; rw [Nat.sub_self] at this; simpa using this)
          have p0 : wr.cell? ⟨w.heap.size, 0, none⟩ = some (.slice A n c) := (blk_cell HO1.out.box 0).trans rfl
          clear HO
          go_wp2_with fail
          go_loopg [4, 6, 45] (n + 1) (fun gq s4 s6 s45 wr => ∃ (k : Nat) (at_ : List Bool) (anyb : Bool) (ga ca : Nat), k ≤ n + 1 ∧ n + 1 - k ≤ gq ∧ s4 = .slice (some ⟨ga, 0, none⟩) n ca ∧ s6 = .bool anyb ∧ s45 = .int .i64 k ∧ Aside0 (at_.length = n) ∧ Aside0 (rounds l (n + 1 - k) (at_, anyb) = rounds l (n + 1) (List.replicate n true, true)) ∧ Aside0 (LoopSt w wr A n c a b l ga ca at_))
          case atStart => exact ⟨0, List.replicate n true, true, ga, ca, by omega, by omega, rfl, rfl, rfl, ⟨by simp⟩, ⟨rfl⟩, HO1⟩
          case round =>
            clear HO1 p0
            obtain ⟨k, at_, anyb, ga, ca, hk, hgk, rfl, rfl, rfl, HAL, HRD, HO⟩ := hrel
            by_cases hkn : k < n + 1
            · have p0 : wr.cell? ⟨w.heap.size, 0, none⟩ = some (.slice A n c) := (blk_cell HO.out.box 0).trans rfl
              go_wp2_with ((with_reducible refine gate_dst (N := 50) rfl ?_); refine Kd.R_make Kd.bool (w0 := w) w.heap.size 4 rfl (N := 50) rfl 37 _ _ rfl (n : Int) rfl rfl Try.underlying37 (.bool false) 1 info_bool rfl (by decide) (by omega) false (ok := fun k => wr.heap.size ≤ k) (okp := fun k => wr.heap.size ≤ k) rfl (fun _ hk => hk) (Nat.le_refl _) (by omega) (by omega) HO.out.below HO.out.below.size ?_; intro v4 w4 hD hb4 hg4 hn4; obtain ⟨gm, cm, hvm, hgm, hgm2, _⟩ := Kd.R_form hD (by simp; omega); subst hvm; have hrl : (List.replicate (n : Int).toNat false).length = n := (by simp); rw [hrl] at hD ⊢; rw [Int.toNat_natCast] at hD; have hbb : Below wr.heap.size wr w4 := (Below.refl _ wr).grown hg4 (Nat.le_refl _) (fun k h => by cases h); have hD2 : Kd.R Kd.bool 4 w4 w.heap.size (fun k => k = gm) (.slice (some ⟨gm, 0, none⟩) n cm) (List.replicate n false) := ⟨fun k hk => (by simp [Value.ownBlock] at hk; exact hk.symm), (by obtain ⟨_, inner, ho, hr⟩ := hD; exact ⟨inner, ho, hr⟩)⟩; have HM := Aside0.mk (MoreSt.mk (HO.out.step hbb) hD2 ⟨(by have := HO.out.below.size; have := HO.out.lt; have := hD.1 gm rfl; omega), hgm2, (by have := HO.out.lt; have := hD.1 gm rfl; omega)⟩); clear hD hD2 hrl hb4 hg4 hn4 hbb p0 HO hgm hgm2; have p0 : w4.cell? ⟨w.heap.size, 0, none⟩ = some (.slice A n c) := (blk_cell HM.out.st.box 0).trans rfl)
              clear p0
              go_loopg [6, 54] n (fun gq s6 s54 wr => ∃ (i : Nat) (st : List Bool × Bool), i ≤ n ∧ n - i ≤ gq ∧ s6 = .bool st.2 ∧ s54 = .int .i64 i ∧ Aside0 (st = roundL l at_ i) ∧ Aside0 (MoreSt w wr A n c a b l ga ca at_ gm cm st.1))
              case atStart => exact ⟨0, (List.replicate n false, false), by omega, by omega, rfl, rfl, ⟨by unfold roundL; rw [HLN.out]; rfl⟩, HM⟩
              case round =>
                clear HM
                obtain ⟨i, st, hi, hgi, rfl, rfl, HST, HM⟩ := hrel
                by_cases hin : i < n
                · obtain ⟨bI, oI, eI, hbI, x0, x1, x2, x3, x4⟩ := inst_at HM.out.st.prog (i := i) (by have := HLN.out; omega)
                  subst eI
                  have hil : i < l.length := by have := HLN.out; omega
                  obtain ⟨x, hx⟩ : ∃ x, x = l[i] := ⟨_, rfl⟩
                  have HX := Aside0.mk (show x ∈ l by rw [hx]; exact List.getElem_mem _)
                  have HXD := Aside0.mk (show l.getD i z5 = x by rw [hx, List.getD_eq_getElem?_getD, List.getElem?_eq_getElem hil]; rfl)
                  rw [← hx] at x0 x1 x2 x3 x4
                  clear hx
                  go_wp2_with fail
                  obtain ⟨w5, hw5⟩ : ∃ w5, w5 = wr.alloc (.cells #[.int .i64 x.1, .int .i64 x.2.1, .int .i64 x.2.2.1, .int .i64 x.2.2.2.1, .int .i64 x.2.2.2.2] 33) := ⟨_, rfl⟩
                  rw [← hw5]
                  have hb5 : Below wr.heap.size wr w5 := by rw [hw5]; exact (Below.refl _ wr).alloc (Nat.le_refl _) _
                  clear x0 x1 x2 x3 x4 hw5
                  refine (next_at x w5).mono ?_
                  rintro e w6 ⟨v6, rfl, hR6, hb6⟩
                  obtain ⟨A6, c6, rfl⟩ := Kd.R_slice hR6
                  have HM6 := Aside0.mk (HM.out.step (hb5.trans (hb6.mono hb5.size)))
                  have HR6 := Aside0.mk (Kd.R_mono (ok' := fun k => w5.heap.size ≤ k) (show Kd.R (Kd.int .i64) 3 w6 w5.heap.size (fun k => w5.heap.size ≤ k) (.slice A6 _ c6) (freeN x) from Kd.R_mono (Kd.R_bound hR6) (fun k hk => hk.2.1)) (fun _ h => h))
                  have HG := Aside0.mk (show gm < w5.heap.size by have := HM.out.lm; have := hb5.size; omega)
                  have HTX := Aside0.mk (HT.out x HX.out)
                  have HPL := Aside0.mk (free_len x)
                  have HSN := Aside0.mk (show roundL l at_ (i + 1) = (freeN x).foldl (mark1 (at_.getD i false)) st by rw [roundL_succ, HXD.out, ← HST.out])
                  have HSL := Aside0.mk (show st.1.length = n by rw [HST.out, roundL_len, HLN.out])
                  clear hR6 hb6 hb5 HM HX HXD hil
                  generalize freeN x = ts at HTX HPL HSN HR6 ⊢
                  obtain ⟨m, hm⟩ : ∃ m, m = ts.length := ⟨_, rfl⟩
                  have HMT := Aside0.mk hm
                  rw [← hm] at HR6 HPL ⊢
                  clear hm
                  obtain ⟨bi, hbi⟩ : ∃ bi, bi = at_.getD i false := ⟨_, rfl⟩
                  have HBI := Aside0.mk hbi
                  rw [← hbi] at HSN
                  clear hbi
                  go_wp2_with fail
                  go_loopg [6, 62] m (fun gq s6 s62 wr4 => ∃ (j : Nat) (st4 : List Bool × Bool), j ≤ m ∧ m - j ≤ gq ∧ s6 = .bool st4.2 ∧ s62 = .int .i64 j ∧ Aside0 (st4 = (ts.take j).foldl (mark1 bi) st) ∧ Aside0 (MoreSt w wr4 (some ⟨bI, oI, none⟩) n c a b l ga ca at_ gm cm st4.1) ∧ Aside0 (Kd.R (Kd.int .i64) 3 wr4 w5.heap.size (fun k => w5.heap.size ≤ k) (.slice A6 m c6) ts))
                  case atStart => exact ⟨0, st, by omega, by omega, rfl, rfl, ⟨rfl⟩, HM6, HR6⟩
                  case round =>
                    clear HM6 HR6
                    obtain ⟨j, st4, hj, hgj, rfl, rfl, HE4, HM4, HR4⟩ := hrel
                    by_cases hjm : j < m
                    · obtain ⟨g7, c7', e7, hg7, _⟩ := Kd.R_form HR4.out (by have := HMT.out; omega)
                      injection e7 with e7 _ _
                      subst e7
                      have hjt : j < ts.length := by have := HMT.out; omega
                      have htj := HTX.out _ (List.getElem_mem hjt)
                      obtain ⟨tn, htn⟩ : ∃ tn : Nat, ts[j] = (tn : Int) := ⟨ts[j].toNat, by omega⟩
                      have htc := (int_cell HR4.out hjm).1
                      rw [List.getD_eq_getElem?_getD, List.getElem?_eq_getElem hjt, Option.getD_some, htn] at htc
                      have htl : tn < n := by omega
                      have hai := (bool_cell HM4.out.st.ra hin).1
                      rw [← HBI.out] at hai
                      have hmi := bool_cell HM4.out.rm htl
                      have hm1 := hmi.1
                      have hf1 := hmi.2
                      have HN4 := Aside0.mk (show (ts.take (j + 1)).foldl (mark1 bi) st = mark1 bi st4 (tn : Int) by
                        rw [List.take_succ_eq_append_getElem hjt, List.foldl_append, ← HE4.out, htn]; rfl)
                      have HMX := Aside0.mk (HM4.out.mark HCW.out tn)
                      have HRX := Aside0.mk (Kd.R_far HR4.out (p := ⟨gm, tn, none⟩) (fun k hk => by show k ≠ gm; have := HG.out; omega) (.bool true))
                      have HPLo := HPL.out
                      generalize st4.1.getD tn false = bt at hm1
                      clear htj htn hmi
                      cases bi with
                      | true =>
                        go_wp2_with fail
                        go_roundg (m - (j + 1))
                        case measure => omega
                        case rel => exact ⟨j + 1, (st4.1.set tn true, true), by omega, by omega, rfl, by rw [show (j : Int) + 1 = ((j + 1 : Nat) : Int) by omega], ⟨by rw [HN4.out]; rfl⟩, HMX, HRX⟩
                      | false =>
                        go_wp2_with fail
                        go_roundg (m - (j + 1))
                        case measure => omega
                        case rel => exact ⟨j + 1, st4, by omega, by omega, rfl, by rw [show (j : Int) + 1 = ((j + 1 : Nat) : Int) by omega], ⟨by rw [HN4.out]; rfl⟩, HM4, HR4⟩
                    · have hjm' : m = j := by omega
                      subst hjm'
                      have HSE := Aside0.mk (show st4 = roundL l at_ (i + 1) by rw [HSN.out, HE4.out, List.take_of_length_le (by have := HMT.out; omega)])
                      go_wp2_with fail
                      go_roundg (n - (i + 1))
                      case measure => omega
                      case rel => exact ⟨i + 1, st4, by omega, by omega, rfl, by rw [show (i : Int) + 1 = ((i + 1 : Nat) : Int) by omega], HSE, HM4⟩
                · have hni : n = i := by omega
                  subst hni
                  go_wp2_with fail
                  go_roundg (n + 1 - (k + 1))
                  case measure => omega
                  case rel => exact ⟨k + 1, st.1, st.2, gm, cm, by omega, by omega, rfl, rfl, by rw [show (k : Int) + 1 = ((k + 1 : Nat) : Int) by omega], ⟨by rw [HST.out, roundL_len, HLN.out]⟩, ⟨by
                    have h1 := HRD.out
                    rw [show n + 1 - k = (n + 1 - (k + 1)) + 1 by omega, rounds, HLN.out, ← HST.out] at h1
                    exact h1⟩, ⟨HM.out.st.box, HM.out.st.below, HM.out.st.prog, HM.out.rm, HM.out.lm.1, HM.out.lm.2.1⟩⟩
            · have hkn' : k = n + 1 := by omega
              subst hkn'
              have h1 := HRD.out
              rw [Nat.sub_self] at h1
              have hany := HFIN.out
              rw [← h1] at hany
              clear h1
              dsimp only [rounds] at hany
              simp only [Int.reduceEq, decide_false, decide_true] at hany
              subst hany
              go_wp2_with fail
              go_ret
              exact ⟨rfl, HO.out.below⟩
  · go_wp2
    go_ret
    exact ⟨rfl, HB2.out⟩
end Go.Proofs.Ytepjoiclfoopeaa.Pure
