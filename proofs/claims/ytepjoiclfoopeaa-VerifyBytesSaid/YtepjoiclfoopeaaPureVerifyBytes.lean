/- VerifyBytes: whatever bytes come; no condition. -/
import Derived.Test.YtepjoiclfoopeaaHVerifyBytesx3
import Derived.Test.YtepjoiclfoopeaaXVerifyMeths
import Derived.Test.YtepjoiclfoopeaaXOpenProg
import Derived.Laws.Closers25b
namespace Go.Proofs.Ytepjoiclfoopeaa.Pure
open Go.RowKit Go.Proofs.Ytepjoiclfoopeaa.HVerifyBytes Go.Proofs.YtepjoiclfoopeaaW.PrintWords Go.Proofs.YtepjoiclfoopeaaW.PrintLast
open Go.Proofs.YtepjoiclfoopeaaX
set_option linter.unusedVariables false
set_option linter.unusedSimpArgs false
theorem back_in (l : List S33) : (l.map inOf).map (fun x : I5 => (⟨x.1, x.2.1, x.2.2.1, x.2.2.2.1, x.2.2.2.2⟩ : S33)) = l := by
  rw [List.map_map]
  exact List.map_id'' (fun x => rfl) l
def toIn (x : I5) : S33 := ⟨x.1, x.2.1, x.2.2.1, x.2.2.2.1, x.2.2.2.2⟩
theorem forth_in (l : List I5) : (l.map toIn).map inOf = l := by
  rw [List.map_map]
  exact List.map_id'' (fun x => rfl) l
theorem toCI {A : Option Addr} {l : List I5} {w : World} (h : Kd.C kIn w A l.length l) : Kd.C k33 w A (l.map toIn).length (l.map toIn) := by
  rw [List.length_map]
  exact (C_iso (d := kIn) (f := inOf)).2 (by rw [forth_in]; exact h)
theorem check_f (k : Nat) (l : List S33) (a b : Int) : prog_Check.f (k + 1) l a b = some (checkC (l.map inOf) a b) := by
  unfold prog_Check.f checkC
  rw [List.length_map]
  have hj : ∀ q : Bool, q = true → prog_Check.j0 (k + 1) q l a b = some 130 := by
    intro q hq
    simp only [prog_Check.j0]
    rw [if_pos hq]
  by_cases h1 : (l.length : Int) < 1
  · rw [if_pos h1, hj _ rfl, if_neg (by omega)]
  · by_cases h2 : (l.length : Int) > 4000
    · rw [if_neg h1, if_pos h2, hj _ rfl, if_neg (by omega)]
    · rw [if_neg h1, if_neg h2, place_f]
      simp only [Option.bind_some]
      by_cases h3 : 0 ≤ a ∧ a < 4000
      · rw [decide_eq_true h3, if_pos rfl]
        by_cases h4 : b < 0
        · rw [if_pos h4, hj _ rfl, if_neg (by omega)]
        · rw [if_neg h4]
          by_cases h5 : b > 64
          · rw [hj _ (decide_eq_true h5), if_neg (by omega)]
          · rw [decide_eq_false h5]
            simp only [prog_Check.j0]
            rw [if_neg (by decide), show ext_badInsts.f l () = some ((l.map ofIn).any fun x => !fitsB x) by unfold ext_badInsts.f; rw [if_pos (by omega)]]
            simp only [Option.bind_some]
            have e : (l.map ofIn).any (fun x => !fitsB x) = !((l.map inOf).all fitsB) := by
              rw [List.all_eq_not_any_not]
              simp
            rw [e]
            cases h6 : (l.map inOf).all fitsB
            · rw [Bool.not_false, if_pos rfl, if_neg (by simp)]
            · rw [Bool.not_true, if_neg (by decide), if_pos ⟨by omega, by omega, h3, by omega, by omega, rfl⟩]
      · rw [decide_eq_false h3, if_neg (by decide), hj _ rfl, if_neg (fun g => h3 g.2.2.1)]
theorem checkC_ok {l : List I5} {a b : Int} (h : checkC l a b = 0) : 1 ≤ l.length ∧ l.length ≤ 4000 ∧ (0 ≤ a ∧ a < 4000) ∧ 0 ≤ b ∧ b ≤ 64 ∧ l.all fitsB = true := by
  unfold checkC at h
  split at h
  · assumption
  · omega
theorem fits_xy {x : I5} (h : fitsB x = true) : (0 ≤ x.2.2.2.1 ∧ x.2.2.2.1 < 4000) ∧ (0 ≤ x.2.2.2.2 ∧ x.2.2.2.2 < 4000) := by
  unfold fitsB at h
  simp only [Bool.and_eq_true, decide_eq_true_eq] at h
  exact ⟨h.2.2.1, h.2.2.2.1⟩
theorem led_ok {l : List I5} {a b : Int} (h : checkC l a b = 0) (ht : targetsB l a = true) : ledB l = true := by
  rw [ledB_iff]
  intro x hx t htx
  have hf := List.all_eq_true.1 (checkC_ok h).2.2.2.2.2 x hx
  have hxy := fits_xy hf
  unfold targetsB at ht
  simp only [Bool.and_eq_true, Bool.not_eq_true'] at ht
  have hp : pastB l.length x = false := by
    rw [Bool.eq_false_iff]
    intro g
    rw [List.any_eq_true.2 ⟨x, hx, g⟩] at ht
    exact absurd ht.2 (by decide)
  have hlt : t < l.length := by
    unfold pastB at hp
    rw [Bool.eq_false_iff] at hp
    by_cases g : t < l.length
    · exact g
    · exact absurd (List.any_eq_true.2 ⟨t, htx, decide_eq_true (by omega)⟩) hp
  refine ⟨?_, hlt⟩
  unfold leadsV at htx
  repeat' split at htx
  all_goals simp at htx
  all_goals omega
theorem look_f (k : Nat) (l : List S33) (a b : Int) : verify_look.f (k + 1) l a b = some (lookC (l.map inOf) a b) := by
  unfold verify_look.f lookC
  rw [check_f]
  simp only [Option.bind_some]
  by_cases h0 : checkC (l.map inOf) a b = 0
  · have hk := checkC_ok h0
    rw [List.length_map] at hk
    rw [if_pos h0, if_neg (fun g => g h0), show verify_targets.f l a b = some (targetsB (l.map inOf) a) by unfold verify_targets.f; rw [if_pos (by omega)]]
    simp only [Option.bind_some]
    cases ht : targetsB (l.map inOf) a with
    | false => rw [if_neg (by decide), if_pos rfl]
    | true =>
      rw [if_pos rfl, if_neg (by decide), show verify_slots.f l a b = some (slotsB (l.map inOf) b) by unfold verify_slots.f; rw [if_pos (by omega)]]
      simp only [Option.bind_some]
      cases hs : slotsB (l.map inOf) b with
      | false => rw [if_neg (by decide), if_pos rfl]
      | true =>
        rw [if_pos rfl, if_neg (by decide), show verify_ordered.f l a b = some ((ordL (l.map inOf)).getD [], (ordL (l.map inOf)).isSome) by unfold verify_ordered.f; rw [if_pos ⟨by omega, by omega, led_ok h0 ht⟩]]
        simp only [Option.bind_some]
        cases ordL (l.map inOf) with
        | none => rw [if_neg (by simp)]
        | some o => rw [if_pos (by simp)]; rfl
  · rw [if_neg h0, if_pos h0]
    have : checkC (l.map inOf) a b = 130 := by
      unfold checkC at h0 ⊢
      split
      · rename_i g; rw [if_pos g] at h0; exact absurd rfl h0
      · rfl
    rw [this]
theorem lookAt : LookAt := by
  intro A c l a b w hC hc
  have := verify_look.calls 1 A c (l.map toIn) a b _ _ w (toCI hC) (by rw [List.length_map]; exact hc) (look_f 0 (l.map toIn) a b)
  rw [List.length_map, forth_in] at this
  exact this
theorem vcheck_at {A : Option Addr} {c : Nat} {l : List I5} {a b : Int} {w : World} (hC : Kd.C kIn w A l.length l) (hc : l.length ≤ c) : Calls Try.prog 11 #[.agg #[.slice A l.length c, .int .i64 a, .int .i64 b]] w fun e w' => e = .returned (.int .i64 (lookC l a b).2) ∧ Below w.heap.size w w' := by
  have := verify_Check.calls 1 A c (l.map toIn) a b (lookC l a b).2 w (toCI hC) (by rw [List.length_map]; exact hc) (by unfold verify_Check.f; rw [look_f, forth_in]; rfl)
  rw [List.length_map] at this
  exact this
theorem look_len {l : List I5} {a b : Int} (h : (lookC l a b).2 = 0) : checkC l a b = 0 ∧ targetsB l a = true ∧ slotsB l b = true ∧ ∃ o, ordL l = some o ∧ (lookC l a b).1 = o := by
  unfold lookC at h ⊢
  by_cases h0 : checkC l a b ≠ 0
  · rw [if_pos h0] at h; exact absurd h (by decide)
  · rw [if_neg h0] at h ⊢
    cases ht : targetsB l a with
    | false => rw [ht, if_pos rfl] at h; exact absurd h (by decide)
    | true =>
      rw [ht, if_neg (by decide)] at h
      rw [if_neg (by decide)]
      cases hs : slotsB l b with
      | false => rw [hs, if_pos rfl] at h; exact absurd h (by decide)
      | true =>
        rw [hs, if_neg (by decide)] at h
        rw [if_neg (by decide)]
        cases ho : ordL l with
        | none => rw [ho] at h; exact absurd h (by decide)
        | some o => exact ⟨by omega, rfl, rfl, o, rfl, rfl⟩
theorem new_at {A : Option Addr} {c : Nat} {l : List I5} {a b : Int} {w : World} (hC : Kd.C kIn w A l.length l) (hc : l.length ≤ c) : Calls Try.prog 8 #[.agg #[.slice A l.length c, .int .i64 a, .int .i64 b]] w (NewPost w l a b) :=
  new_any lookAt A c l a b w hC hc (fun h => (checkC_ok (look_len h).1).2.1)
theorem rows_C {W : World} {B n : Nat} {l : List I5} (h : W.heap[B]? = some (.cells (l.flatMap encInst).toArray 33 (0, 0))) (hn : l.length = n) (hm : n ≤ 4000) : Kd.C kIn W (some ⟨B, 0, none⟩) n l := by
  subst hn
  have hlen := flat_len (enc := encInst) 5 (fun _ => rfl) l
  have : Kd.R kIn 33 W 0 (fun _ => True) (.slice (some ⟨B, 0, none⟩) l.length l.length) l := (fixed_R kIn_fixed).2 ⟨fun _ _ => trivial, hlen, .inr ⟨B, l.length, _, rfl, Nat.zero_le _, h, Nat.le_refl _, by unfold maxLen; omega, by rw [List.size_toArray]; exact hlen, by rw [List.toList_toArray, ← show (l.flatMap encInst).length = l.length * kIn.sz from hlen]; exact List.take_length⟩⟩
  exact (Kd.R_reads' this).2.2
theorem sameI_l0 (s : List Int) (hn : s.length ≤ 2000000) (d : Nat) : ∀ i : Nat, i ≤ s.length → s.length - i = d → Ev (fun k => burinbook_SameInts.l0 k s s true i) true := by
  induction d with
  | zero =>
    intro i hi hd
    refine Ev.step (fun k => ?_) (Ev.now _)
    simp only [burinbook_SameInts.l0]
    rw [if_pos trivial, if_neg (by omega)]
  | succ d ih =>
    intro i hi hd
    refine Ev.step (fun k => ?_) (ih (i + 1) (by omega) (by omega))
    simp only [burinbook_SameInts.l0]
    rw [if_pos trivial, if_pos (by omega), if_pos (by omega), if_pos (by omega), wrap_v (x := (i : Int) + 1) (y := ((i + 1 : Nat) : Int)) (by omega) (by omega) (by omega)]
    simp
theorem sameI_ev (s : List Int) (hn : s.length ≤ 2000000) : Ev (fun k => burinbook_SameInts.f k s s) true := by
  have := sameI_l0 s hn _ 0 (Nat.zero_le _) rfl
  unfold burinbook_SameInts.f
  simpa using this
theorem sameI_at {A A' : Option Addr} {c c' : Nat} {s : List Int} {w : World} (hn : s.length ≤ 2000000) (h : Kd.C (Kd.int .i64) w A s.length s) (hc : s.length ≤ c) (h' : Kd.C (Kd.int .i64) w A' s.length s) (hc' : s.length ≤ c') :
    Calls Try.prog 21 #[.slice A s.length c, .slice A' s.length c'] w (fun e w' => e = .returned (.bool true) ∧ Below w.heap.size w w') := by
  obtain ⟨k, hk⟩ := Ev.rounds (sameI_ev s hn)
  exact (burinbook_SameInts.calls k A c s A' c' s true w h hc h' hc' hk).mono fun e w' ⟨he, hd⟩ => ⟨he, hd.below⟩
theorem reached_at {W : World} {g : Nat} {l : List I5} {a b : Int} {o r : List Int} (h : Ck W g l a b o) (hr : ∃ k, verify_Checked_Reached.f k (l.map toIn) a b o = some (r, a, b)) :
    Calls Try.prog 20 #[.pointer (some ⟨g, 0, none⟩)] W fun e w' => ∃ v, e = .returned v ∧ Kd.R (Kd.int .i64) 3 w' W.heap.size (fun _ => True) v r ∧ Ck w' g l a b o ∧ ∀ base, base ≤ g → base ≤ W.heap.size → Below base W w' := by
  obtain ⟨w0, A0, c0, A3, c3, h1, h2, h3, h4, h5⟩ := h
  obtain ⟨k, hk⟩ := hr
  refine (verify_Checked_Reached.calls k g (l.map toIn) a b o r a b w0 W ⟨A0, c0, A3, c3, by rw [List.length_map]; exact h1, h2, toCI h4 |> fun h => by rw [List.length_map] at h ⊢; exact h, h5⟩ h3 hk).mono fun e w' h => ?_
  obtain ⟨v, he, hR, ⟨B0, d0, B3, d3, g1, g2, g3, g4⟩, hb, hk⟩ := h
  rw [List.length_map] at g1 g3
  refine ⟨v, he, hR, ⟨w0, B0, d0, B3, d3, g1, h2, hb, ?_, g4⟩, fun base hbg hbW => ⟨hb.os.trans h3.os.symm, hb.tape.trans h3.tape.symm, hb.output.trans h3.output.symm, hk.1, fun j hj => hk.2 j (by omega) (by omega) (by simp)⟩⟩
  have := (C_iso (d := kIn) (f := inOf)).1 g3
  rwa [forth_in] at this
theorem two_loop : lookC [(2, 0, 0, 0, 1), (5, 0, 0, 0, 0)] 0 2 = ([], 151) := by decide +kernel
theorem one_fine : lookC [(1, 0, 255, 0, 0)] 0 2 = ([0], 0) := by decide +kernel
theorem one_reached : ∃ k, verify_Checked_Reached.f k ([(1, 0, 255, 0, 0)].map toIn) 0 2 [0] = some ([0], 0, 2) := ⟨6, by decide +kernel⟩
theorem al_old {w : World} {o x : Obj} {k : Nat} (h : w.heap[k]? = some x) : (w.alloc o).heap[k]? = some x := (((Below.refl _ w).alloc (Nat.le_refl _) o).block _ (blk_lt h)).trans h
theorem ints_C {W : World} {B n : Nat} {l : List Int} (h : W.heap[B]? = some (.cells (l.flatMap encInt).toArray 3 (0, 0))) (hn : l.length = n) (hm : n ≤ 4000) : Kd.C (Kd.int .i64) W (some ⟨B, 0, none⟩) n l := by
  subst hn
  have hlen := flat_len (enc := encInt) 1 (fun _ => rfl) l
  have : Kd.R (Kd.int .i64) 3 W 0 (fun _ => True) (.slice (some ⟨B, 0, none⟩) l.length l.length) l := (fixed_R kI_fixed).2 ⟨fun _ _ => trivial, hlen, .inr ⟨B, l.length, _, rfl, Nat.zero_le _, h, Nat.le_refl _, by unfold maxLen; omega, by rw [List.size_toArray]; exact hlen, by rw [List.toList_toArray, ← show (l.flatMap encInt).length = l.length * kI.sz from hlen]; exact List.take_length⟩⟩
  exact (Kd.R_reads' this).2.2
set_option maxHeartbeats 4000000 in
set_option maxRecDepth 100000 in
theorem works_at (w : World) : Calls Try.prog 7 #[] w (fun e w' => e = .returned (.bool true) ∧ Below w.heap.size w w') := by
  have b1 : ∀ W, (Instr.build 33 #[(0, .int .i64 2), (3, .int .i64 0), (4, .int .i64 1)]).run Try.prog W = .ok (.agg #[.int .i64 2, .int .i64 0, .int .i64 0, .int .i64 0, .int .i64 1]) W := fun W => run_build W 33 _ _ (by kernel_rfl)
  have b2 : ∀ W, (Instr.build 33 #[(0, .int .i64 5)]).run Try.prog W = .ok (.agg #[.int .i64 5, .int .i64 0, .int .i64 0, .int .i64 0, .int .i64 0]) W := fun W => run_build W 33 _ _ (by kernel_rfl)
  have b3 : ∀ W, (Instr.build 33 #[(0, .int .i64 1), (2, .int .i64 255)]).run Try.prog W = .ok (.agg #[.int .i64 1, .int .i64 0, .int .i64 255, .int .i64 0, .int .i64 0]) W := fun W => run_build W 33 _ _ (by kernel_rfl)
  have b4 : ∀ W v, (Instr.build 24 #[(2, .int .i64 2), (0, .slice (some v) 2 2)]).run Try.prog W = .ok (.agg #[.slice (some v) 2 2, .int .i64 0, .int .i64 2]) W := fun W v => run_build W 24 _ _ (by kernel_rfl)
  have b5 : ∀ W v, (Instr.build 24 #[(2, .int .i64 2), (0, .slice (some v) 1 1)]).run Try.prog W = .ok (.agg #[.slice (some v) 1 1, .int .i64 0, .int .i64 2]) W := fun W v => run_build W 24 _ _ (by kernel_rfl)
  go_enter Try.func7, Try.ntmps7
  go_wp2_with fail
  generalize hw4 : (((w.alloc (.cells #[.int .i64 2, .int .i64 0, .int .i64 0, .int .i64 0, .int .i64 1, .int .i64 5, .int .i64 0, .int .i64 0, .int .i64 0, .int .i64 0] 33)).alloc (.cells #[.slice (some ⟨w.heap.size, 0, none⟩) 2 2, .int .i64 0, .int .i64 2] 24)).alloc (.cells #[.int .i64 1, .int .i64 0, .int .i64 255, .int .i64 0, .int .i64 0] 33)).alloc (.cells #[.slice (some ⟨w.heap.size + 1 + 1, 0, none⟩) 1 1, .int .i64 0, .int .i64 2] 24) = w4
  have hB : Below w.heap.size w w4 := by
    rw [← hw4]
    exact ((((Below.refl _ w).alloc (Nat.le_refl _) _).alloc (by simp) _).alloc (by simp; omega) _).alloc (by simp; omega) _
  have h0 : w4.heap[w.heap.size]? = some (.cells #[.int .i64 2, .int .i64 0, .int .i64 0, .int .i64 0, .int .i64 1, .int .i64 5, .int .i64 0, .int .i64 0, .int .i64 0, .int .i64 0] 33 (0, 0)) := by
    rw [← hw4]
    exact al_old (al_old (al_old (heap_alloc_last w _)))
  have h1 : w4.heap[w.heap.size + 1]? = some (.cells #[.slice (some ⟨w.heap.size, 0, none⟩) 2 2, .int .i64 0, .int .i64 2] 24 (0, 0)) := by
    rw [← hw4]
    exact al_old (al_old (heap_at (by simp)))
  have h2 : w4.heap[w.heap.size + 1 + 1]? = some (.cells #[.int .i64 1, .int .i64 0, .int .i64 255, .int .i64 0, .int .i64 0] 33 (0, 0)) := by
    rw [← hw4]
    exact al_old (heap_at (by simp))
  have HN := Aside0.mk (new_at (l := [(1, 0, 255, 0, 0)]) (a := 0) (b := 2) (c := 1) (rows_C (n := 1) h2 rfl (by decide)) (by decide))
  have HB := Aside0.mk hB
  have H0 := Aside0.mk h0
  have H1 := Aside0.mk h1
  clear hB h0 h1 h2 hw4 b1 b2 b3 b4 b5
  refine HN.out.mono ?_
  rintro e w5 hpost
  rcases hpost with ⟨hne, _⟩ | ⟨_, g, rfl, hg, hck, hb5⟩
  · exact absurd (by rw [one_fine]) hne
  rw [one_fine] at hck
  have HK := Aside0.mk hck
  have HB5 := Aside0.mk (HB.out.trans (hb5.mono HB.out.size))
  have HG := Aside0.mk (show w.heap.size ≤ g from Nat.le_trans HB.out.size hg)
  have k0 : w5.cell? ⟨w.heap.size + 1, 0, none⟩ = some (.slice (some ⟨w.heap.size, 0, none⟩) 2 2) := (hb5.cell (p := ⟨w.heap.size + 1, 0, none⟩) (blk_lt H1.out)).trans ((blk_cell H1.out 0).trans rfl)
  have k1 : w5.cell? ⟨w.heap.size + 1, 1, none⟩ = some (.int .i64 0) := (hb5.cell (p := ⟨w.heap.size + 1, 1, none⟩) (blk_lt H1.out)).trans ((blk_cell H1.out 1).trans rfl)
  have k2 : w5.cell? ⟨w.heap.size + 1, 2, none⟩ = some (.int .i64 2) := (hb5.cell (p := ⟨w.heap.size + 1, 2, none⟩) (blk_lt H1.out)).trans ((blk_cell H1.out 2).trans rfl)
  have HC := Aside0.mk (vcheck_at (w := w5) (l := [(2, 0, 0, 0, 1), (5, 0, 0, 0, 0)]) (a := 0) (b := 2) (c := 2) (rows_C (n := 2) ((hb5.block _ (blk_lt H0.out)).trans H0.out) rfl (by decide)) (by decide))
  rw [two_loop] at HC
  clear hck hb5 hg HN HB
  go_wp2_with fail
  refine HC.out.mono ?_
  rintro e w6 ⟨rfl, hb6⟩
  have HK6 := Aside0.mk (HK.out.step hb6)
  have HB6 := Aside0.mk (HB5.out.trans (hb6.mono HB5.out.size))
  clear hb6 HK HB5 HC k0 k1 k2
  go_wp2_with fail
  refine (len_at HK6.out).mono ?_
  rintro e w' ⟨rfl, rfl⟩
  go_wp2_with fail
  refine (slots_at HK6.out).mono ?_
  rintro e w' ⟨rfl, rfl⟩
  go_wp2_with fail
  refine (order_at HK6.out (by decide)).mono ?_
  rintro e w7 ⟨v7, rfl, hR7, hb7⟩
  obtain ⟨A7, c7, rfl⟩ := Kd.R_slice hR7
  have HR7 := Aside0.mk hR7
  have HK7 := Aside0.mk (HK6.out.step hb7)
  have HB7 := Aside0.mk (HB6.out.trans (hb7.mono HB6.out.size))
  clear hR7 hb7 HK6 HB6
  go_wp2_with fail
  have hal := heap_alloc_last w7 (.cells #[.int .i64 0] 3)
  have hab := (Below.refl _ w7).alloc (Nat.le_refl _) (.cells #[.int .i64 0] 3)
  refine (sameI_at (s := [0]) (by decide) (Kd.C_below (Kd.R_reads' HR7.out).2.2 hab) (Kd.R_reads' HR7.out).2.1 (ints_C (n := 1) (l := [0]) hal rfl (by decide)) (by decide)).mono ?_
  rintro e w8 ⟨rfl, hb8⟩
  have hb78 := hab.trans (hb8.mono hab.size)
  have HK8 := Aside0.mk (HK7.out.step hb78)
  have HB8 := Aside0.mk (HB7.out.trans (hb78.mono HB7.out.size))
  clear hb8 hab hal hb78 HK7 HB7 HR7
  go_wp2_with fail
  refine (reached_at HK8.out one_reached).mono ?_
  rintro e w9 ⟨v9, rfl, hR9, _, hb9⟩
  obtain ⟨A9, c9, rfl⟩ := Kd.R_slice hR9
  have HR9 := Aside0.mk hR9
  have HB9 := Aside0.mk (HB8.out.trans (hb9 w.heap.size HG.out HB8.out.size))
  clear hR9 hb9 HK8 HB8
  go_wp2_with fail
  have hal := heap_alloc_last w9 (.cells #[.int .i64 0] 3)
  have hab := (Below.refl _ w9).alloc (Nat.le_refl _) (.cells #[.int .i64 0] 3)
  refine (sameI_at (s := [0]) (by decide) (Kd.C_below (Kd.R_reads' HR9.out).2.2 hab) (Kd.R_reads' HR9.out).2.1 (ints_C (n := 1) (l := [0]) hal rfl (by decide)) (by decide)).mono ?_
  rintro e w10 ⟨rfl, hb10⟩
  have HB10 := Aside0.mk (HB9.out.trans ((hab.trans (hb10.mono hab.size)).mono HB9.out.size))
  clear hb10 hab hal HB9 HR9
  go_wp2
  go_ret
  exact ⟨rfl, HB10.out⟩
theorem one_at {w0 w : World} {g : Nat} {s : ByteArray} {b : Bool} (hI : IsS63 w0 w g s b) (hB : Below w0.heap.size w0 w) : Calls Try.prog 40 #[.pointer (some ⟨g, 0, none⟩)] w fun e w' => ∃ (v : Int) (s' : ByteArray) (b' : Bool), e = .returned (.int .i64 v) ∧ (0 ≤ v ∧ v ≤ 255) ∧ (s'.size + 1 ≤ s.size ∧ b' = b ∨ s'.size ≤ s.size ∧ b' = true) ∧ IsS63 w0 w' g s' b' ∧ Below w0.heap.size w0 w' ∧ KeepBut w w' g none := by
  by_cases hs : s.toList = ([] : List UInt8)
  · refine (wire_reader_one.calls g s b 0 s true w0 w hI hB (by unfold wire_reader_one.f; rw [if_pos hs])).mono ?_
    rintro e w' ⟨he, h1, h2, h3⟩
    exact ⟨0, s, true, he, by omega, .inr ⟨Nat.le_refl _, rfl⟩, h1, h2, h3⟩
  · have hsz : 0 < s.size := by
      rcases Nat.eq_zero_or_pos s.size with h | h
      · exfalso
        apply hs
        obtain ⟨⟨l⟩⟩ := s
        cases l with
        | nil => unfold ByteArray.toList; unfold ByteArray.toList.loop; rfl
        | cons x l => simp [ByteArray.size] at h
      · exact h
    refine (wire_reader_one.calls g s b _ _ _ w0 w hI hB (by unfold wire_reader_one.f; rw [if_neg hs, if_pos (by omega), if_pos (by omega)])).mono ?_
    rintro e w' ⟨he, h1, h2, h3⟩
    have hv := bt_range s 0
    refine ⟨_, _, _, he, ?_, .inl ⟨?_, rfl⟩, h1, h2, h3⟩
    · rw [wrap_v (y := bt s 0) rfl (by omega) (by omega)]
      exact hv
    · rw [ByteArray.size_extract]
      omega
def NumPost (w0 w : World) (g : Nat) (s : ByteArray) (b : Bool) (e : Ending) (w' : World) : Prop := ∃ (v : Int) (s' : ByteArray) (b' : Bool), e = .returned (.int .i64 v) ∧ (-9223372036854775808 ≤ v ∧ v ≤ 9223372036854775807) ∧ s'.size ≤ s.size ∧ (b = true → b' = true) ∧ IsS63 w0 w' g s' b' ∧ Below w0.heap.size w0 w' ∧ KeepBut w w' g none
set_option maxHeartbeats 4000000 in
set_option maxRecDepth 100000 in
theorem number_at {w0 w : World} {g : Nat} {s : ByteArray} {b : Bool} (hI : IsS63 w0 w g s b) (hB : Below w0.heap.size w0 w) : Calls Try.prog 37 #[.pointer (some ⟨g, 0, none⟩)] w (NumPost w0 w g s b) := by
  have HI := Aside0.mk hI
  have HB := Aside0.mk hB
  have HK := Aside0.mk (KeepBut.refl w g none)
  clear hI hB
  go_enter Try.func37, Try.ntmps37
  go_wp2_with fail
  go_loopg [3, 4] 3 (fun gq s2 s3 wr => ∃ (j : Nat) (nv sh : Int) (s' : ByteArray) (b' : Bool), (j = 0 ∧ sh = 0 ∨ j = 1 ∧ sh = 7 ∨ j = 2 ∧ sh = 14) ∧ 3 - j ≤ gq ∧ s2 = .int .i64 nv ∧ s3 = .int .i64 sh ∧ Aside0 (s'.size ≤ s.size ∧ (b = true → b' = true)) ∧ Aside0 (IsS63 w0 wr g s' b') ∧ Aside0 (Below w0.heap.size w0 wr) ∧ Aside0 (KeepBut w wr g none))
  case atStart => exact ⟨0, 0, 0, s, b, by omega, by omega, rfl, rfl, ⟨Nat.le_refl _, fun h => h⟩, HI, HB, HK⟩
  case round =>
    clear HI HB HK
    obtain ⟨j, nv, sh, s', b', hj, hgj, rfl, rfl, HS, HI, HB, HK⟩ := hrel
    go_wp2_with fail
    refine (one_at HI.out HB.out).mono ?_
    rintro e w1 ⟨cv, s1, b1, rfl, hcv, hs1, hI1, hB1, hK1⟩
    have HS1 := Aside0.mk (show s1.size ≤ s.size ∧ (b = true → b1 = true) by
      have h1 := HS.out.1
      refine ⟨by rcases hs1 with h | h <;> omega, fun h => ?_⟩
      rcases hs1 with h2 | h2
      · rw [h2.2]; exact HS.out.2 h
      · exact h2.2)
    have HI1 := Aside0.mk hI1
    have HB1 := Aside0.mk hB1
    have HK1 := Aside0.mk (HK.out.trans hK1 (.inl rfl))
    have y0 := cellS63_0 hI1.1
    have y1 := cellS63_1 hI1.1
    clear hI1 hB1 hK1 hs1 HS HI HB HK
    have z1 := blk_frozen HI1.out.1 1
    have HEND := Aside0.mk (fun (v : Int) (x : Bool) (hv : -9223372036854775808 ≤ v ∧ v ≤ 9223372036854775807) (hx : b1 = true → x = true) => show NumPost w0 w g s b (.returned (.int .i64 v)) (w1.setCell ⟨g, 1, none⟩ (.bool x)) from ⟨v, s1, x, rfl, hv, HS1.out.1, fun h => hx (HS1.out.2 h), HI1.out.set_1 x, HB1.out.setCell (p := ⟨g, 1, none⟩) HI1.out.2 _, HK1.out.set_ 1 _⟩)
    rcases hj with ⟨rfl, rfl⟩ | ⟨rfl, rfl⟩ | ⟨rfl, rfl⟩
    · by_cases hc : cv < 128
      · cases b1
        · go_wp2_with fail
          all_goals (go_ret; exact HEND.out _ _ (bits_within _ _ _ _) (fun h => by first | rfl | exact absurd h (by decide)))
        · go_wp2_with fail
          all_goals (go_ret; exact HEND.out _ _ (bits_within _ _ _ _) (fun h => by first | rfl | exact absurd h (by decide)))
      · go_wp2_with fail
        · go_roundg (3 - 1)
          case measure => omega
          case rel => exact ⟨1, _, 7, s1, b1, by omega, by omega, rfl, rfl, HS1, HI1, HB1, HK1⟩
        all_goals (go_ret; exact HEND.out _ _ ⟨by decide, by decide⟩ (fun _ => rfl))
    · by_cases hc : cv < 128
      · cases b1
        · go_wp2_with fail
          all_goals (go_ret; exact HEND.out _ _ (bits_within _ _ _ _) (fun h => by first | rfl | exact absurd h (by decide)))
        · go_wp2_with fail
          all_goals (go_ret; exact HEND.out _ _ (bits_within _ _ _ _) (fun h => by first | rfl | exact absurd h (by decide)))
      · go_wp2_with fail
        · go_roundg (3 - 2)
          case measure => omega
          case rel => exact ⟨2, _, 14, s1, b1, by omega, by omega, rfl, rfl, HS1, HI1, HB1, HK1⟩
        all_goals (go_ret; exact HEND.out _ _ ⟨by decide, by decide⟩ (fun _ => rfl))
    · by_cases hc : cv < 128
      · cases b1
        · go_wp2_with fail
          all_goals (go_ret; exact HEND.out _ _ (bits_within _ _ _ _) (fun h => by first | rfl | exact absurd h (by decide)))
        · go_wp2_with fail
          all_goals (go_ret; exact HEND.out _ _ (bits_within _ _ _ _) (fun h => by first | rfl | exact absurd h (by decide)))
      · go_wp2_with fail
        all_goals (go_ret; exact HEND.out _ _ ⟨by decide, by decide⟩ (fun _ => rfl))
/-- A scope that is left by a goto: what stands behind the label is walked where the goto stands. -/
theorem wp_scope_once {P : Program} {c rest : Code} {Q : Exit → Act → World → Prop} {a : Act} {w : World} (l : Nat) (hf : findLabel c l = some rest)
    (first : c.wp P (Exit.jump l (fun a w => rest.wp P (Exit.jump l (fun _ _ => False) Q) a w) Q) a w) : (Code.scope c).wp P Q a w := by
  refine wp_scope_jumps l (fun a w => rest.wp P (Exit.jump l (fun _ _ => False) Q) a w) (fun _ _ => 0) hf first (fun a w h => ?_)
  refine Code.wp_mono (fun e a' w' hq => ?_) h
  cases e <;> first | exact hq | exact hq.2.elim
def DecPost (w : World) (e : Ending) (w' : World) : Prop := ∃ (v : Value) (a b code : Int) (l : List I5), e = .returned (.tuple #[.agg #[v, .int .i64 a, .int .i64 b], .int .i64 code]) ∧ Kd.R kIn 33 w' w.heap.size (fun _ => True) v l ∧ (code = 0 → checkC l a b = 0 ∧ l.length ≤ 501) ∧ (code ≠ 0 → l = []) ∧ Below w.heap.size w w'
theorem prefix_at (s t : ByteArray) (w : World) : ∃ r : Bool, Calls Try.prog 38 #[.string s, .string t] w fun e w' => e = .returned (.bool r) ∧ Below w.heap.size w w' := by
  have : ∃ r, strings_HasPrefix.f s t = some r := by
    unfold strings_HasPrefix.f stringslite_HasPrefix.f
    by_cases h : (s.size : Int) ≥ (t.size : Int)
    · rw [if_pos h, if_pos (by omega), if_pos h]; exact ⟨_, rfl⟩
    · rw [if_neg h]; exact ⟨_, rfl⟩
  obtain ⟨r, hr⟩ := this
  exact ⟨r, (strings_HasPrefix.calls s t r w hr).mono fun e w' ⟨he, hd⟩ => ⟨he, hd.below⟩⟩
theorem sum_ev (s : ByteArray) (hs : s.size ≤ 500) (d : Nat) : ∀ (i : Nat) (x : Int), i ≤ s.size → s.size - i = d → ∃ r, Ev (fun k => wire_sum.l0 k s x (s.size : Int) i) r := by
  induction d with
  | zero =>
    intro i x hi hd
    exact ⟨x, Ev.step (fun k => by simp only [wire_sum.l0]; rw [if_neg (by omega)]) (Ev.now _)⟩
  | succ d ih =>
    intro i x hi hd
    obtain ⟨r, hr⟩ := ih (i + 1) (Go.bits .xor .u8 x (bt s i)) (by omega) (by omega)
    refine ⟨r, Ev.step (fun k => ?_) hr⟩
    simp only [wire_sum.l0]
    rw [if_pos (by omega), if_pos (by omega), if_pos (by omega), wrap_v (x := (i : Int) + 1) (y := ((i + 1 : Nat) : Int)) (by omega) (by omega) (by omega)]
theorem sum_at (s : ByteArray) (hs : s.size ≤ 500) (w : World) : ∃ r : Int, Calls Try.prog 39 #[.string s] w fun e w' => e = .returned (.int .u8 r) ∧ Below w.heap.size w w' := by
  obtain ⟨r, hr⟩ := sum_ev s hs _ 0 0 (Nat.zero_le _) rfl
  obtain ⟨k, hk⟩ := Ev.rounds hr
  exact ⟨r, (wire_sum.calls k s r w hk).mono fun e w' ⟨he, hd⟩ => ⟨he, hd.below⟩⟩
/-- What is refused: an empty program. -/
theorem dec_wrong {w W : World} {tmps : Array Value} (h2 : tmps.getD 2 undef = .pointer (some ⟨w.heap.size, 0, none⟩)) (h3 : tmps.getD 3 undef = .int .i64 140) (hb : W.heap[w.heap.size]? = some (.cells #[.slice none 0 0, .int .i64 0, .int .i64 0] 24 (0, 0))) (hB : Below w.heap.size w W) : bodyPost Try.prog Try.f26 (DecPost w) Exit.ret ⟨tmps, []⟩ W := by
  refine bodyPost_ret (results_ct rfl _ _ w.heap.size 24 #[.slice none 0 0, .int .i64 0, .int .i64 0] (0, 0) _ h2 hb Try.underlying24 rfl (by kernel_rfl)) rfl ?_
  rw [h3]
  exact ⟨.slice none 0 0, 0, 0, 140, [], rfl, Kd.R_nil _ _ _ _ _, fun h => absurd h (by decide), fun _ => rfl, hB⟩
/-- What Decode holds: the result's box, the program's, the reader, the row that grows. -/
structure DecSt (w W : World) (v : Value) (a b : Int) (l : List I5) (s : ByteArray) (bad : Bool) : Prop where
  res : W.heap[w.heap.size]? = some (.cells #[.slice none 0 0, .int .i64 0, .int .i64 0] 24 (0, 0))
  box : W.heap[w.heap.size + 1]? = some (.cells #[v, .int .i64 a, .int .i64 b] 24 (0, 0))
  rd : IsS63 w W (w.heap.size + 1 + 1) s bad
  row : Kd.R kIn 33 W w.heap.size (fun k => w.heap.size + 1 + 1 < k) v l
  below : Below w.heap.size w W
section
variable {w W W2 : World} {v : Value} {a b : Int} {l : List I5} {s : ByteArray} {bad : Bool}
theorem DecSt.step (h : DecSt w W v a b l s bad) (hb : Below W.heap.size W W2) : DecSt w W2 v a b l s bad :=
  ⟨(hb.block _ (blk_lt h.res)).trans h.res, (hb.block _ (blk_lt h.box)).trans h.box, ⟨(hb.block _ (blk_lt h.rd.1)).trans h.rd.1, h.rd.2⟩, Kd.R_below h.row hb, h.below.trans (hb.mono h.below.size)⟩
theorem DecSt.read {s' : ByteArray} {bad' : Bool} (h : DecSt w W v a b l s bad) (h1 : IsS63 w W2 (w.heap.size + 1 + 1) s' bad') (h2 : Below w.heap.size w W2) (h3 : KeepBut W W2 (w.heap.size + 1 + 1) none) : DecSt w W2 v a b l s' bad' :=
  ⟨h3.blk h.res (by omega) (by simp), h3.blk h.box (by omega) (by simp), h1, Kd.R_keep h.row h3 (fun k hk => by omega), h2⟩
end
theorem kIn_E : kIn.E = [] := rfl
abbrev bxIn (x : I5) : Obj := .cells #[.int .i64 x.1, .int .i64 x.2.1, .int .i64 x.2.2.1, .int .i64 x.2.2.2.1, .int .i64 x.2.2.2.2] 33 (0, 0)
section
variable {w W W2 : World} {v : Value} {a b : Int} {l : List I5} {s : ByteArray} {bad : Bool}
theorem DecSt.far (h : DecSt w W v a b l s bad) {gx : Nat} (i : Nat) (hg : w.heap.size + 1 + 1 < gx) (ho : v.ownBlock ≠ some gx) (u : Value) : DecSt w (W.setCell ⟨gx, i, none⟩ u) v a b l s bad :=
  ⟨blk_far h.res (p := ⟨gx, i, none⟩) (by show _ ≠ gx; omega) u, blk_far h.box (p := ⟨gx, i, none⟩) (by show _ ≠ gx; omega) u, h.rd.far (p := ⟨gx, i, none⟩) (by show _ ≠ gx; omega) u, Kd.R_mono (Kd.R_far (Kd.R_far1 h.row kIn_E (fun e => ho e.symm)) (fun k hk => hk.2) u) (fun _ hk => hk.1), below_set h.below (by omega)⟩
theorem DecSt.setS (h : DecSt w W v a b l s bad) (x : ByteArray) : DecSt w (W.setCell ⟨w.heap.size + 1 + 1, 0, none⟩ (.string x)) v a b l x bad :=
  h.read (h.rd.set_0 x) (below_set h.below (by omega)) ((KeepBut.refl _ _ _).set_ 0 _)
theorem DecSt.setA (h : DecSt w W v a b l s bad) (x : Int) : DecSt w (W.setCell ⟨w.heap.size + 1, 1, none⟩ (.int .i64 x)) v x b l s bad :=
  ⟨blk_far h.res (p := ⟨w.heap.size + 1, 1, none⟩) (by show _ ≠ w.heap.size + 1; omega) _, blk_put h.box 1 _ rfl, h.rd.far (p := ⟨w.heap.size + 1, 1, none⟩) (by show _ ≠ w.heap.size + 1; omega) _, Kd.R_far h.row (fun k hk => by show k ≠ w.heap.size + 1; omega) _, below_set h.below (by omega)⟩
theorem DecSt.setB (h : DecSt w W v a b l s bad) (x : Int) : DecSt w (W.setCell ⟨w.heap.size + 1, 2, none⟩ (.int .i64 x)) v a x l s bad :=
  ⟨blk_far h.res (p := ⟨w.heap.size + 1, 2, none⟩) (by show _ ≠ w.heap.size + 1; omega) _, blk_put h.box 2 _ rfl, h.rd.far (p := ⟨w.heap.size + 1, 2, none⟩) (by show _ ≠ w.heap.size + 1; omega) _, Kd.R_far h.row (fun k hk => by show k ≠ w.heap.size + 1; omega) _, below_set h.below (by omega)⟩
theorem DecSt.push {v2 : Value} {l2 : List I5} (h : DecSt w W v a b l s bad) (hr : Kd.R kIn 33 W2 w.heap.size (fun k => w.heap.size + 1 + 1 < k) v2 l2) (hb : Below w.heap.size w W2) (hg : W.grownBy W2 v.ownBlock) : DecSt w (W2.setCell ⟨w.heap.size + 1, 0, none⟩ v2) v2 a b l2 s bad := by
  have hne : ∀ k, k ≤ w.heap.size + 1 + 1 → some k ≠ v.ownBlock := fun k hk e => by have := h.row.1 k e.symm; omega
  exact ⟨blk_far (blk_grown h.res hg (hne _ (by omega))) (p := ⟨w.heap.size + 1, 0, none⟩) (by show _ ≠ w.heap.size + 1; omega) _, blk_put (blk_grown h.box hg (hne _ (by omega))) 0 _ rfl, (h.rd.grown hg (hne _ (by omega))).far (p := ⟨w.heap.size + 1, 0, none⟩) (by show _ ≠ w.heap.size + 1; omega) _, Kd.R_far hr (fun k hk => by show k ≠ w.heap.size + 1; omega) _, below_set hb (by omega)⟩
theorem DecSt.alloc (h : DecSt w W v a b l s bad) (o : Obj) : DecSt w (W.alloc o) v a b l s bad := h.step ((Below.refl _ _).alloc (Nat.le_refl _) _)
theorem DecSt.lt (h : DecSt w W v a b l s bad) : w.heap.size + 1 + 1 < W.heap.size := blk_lt h.rd.1
end
/-- The same, with the instruction that is being read. -/
structure DecX (w W : World) (v : Value) (a b : Int) (l : List I5) (s : ByteArray) (bad : Bool) (gx : Nat) (x : I5) : Prop where
  st : DecSt w W v a b l s bad
  xb : W.heap[gx]? = some (bxIn x)
  gt : w.heap.size + 1 + 1 < gx
  own : v.ownBlock ≠ some gx
section
variable {w W W2 : World} {v : Value} {a b : Int} {l : List I5} {s : ByteArray} {bad : Bool} {gx : Nat} {x : I5}
theorem DecX.read {s' : ByteArray} {bad' : Bool} (h : DecX w W v a b l s bad gx x) (h1 : IsS63 w W2 (w.heap.size + 1 + 1) s' bad') (h2 : Below w.heap.size w W2) (h3 : KeepBut W W2 (w.heap.size + 1 + 1) none) : DecX w W2 v a b l s' bad' gx x :=
  ⟨h.st.read h1 h2 h3, h3.blk h.xb (by have := h.gt; omega) (by simp), h.gt, h.own⟩
theorem DecX.step (h : DecX w W v a b l s bad gx x) (hb : Below W.heap.size W W2) : DecX w W2 v a b l s bad gx x :=
  ⟨h.st.step hb, (hb.block _ (blk_lt h.xb)).trans h.xb, h.gt, h.own⟩
theorem DecX.put (h : DecX w W v a b l s bad gx x) (i : Nat) (n : Int) (x' : I5) (e : (#[.int .i64 x.1, .int .i64 x.2.1, .int .i64 x.2.2.1, .int .i64 x.2.2.2.1, .int .i64 x.2.2.2.2] : Array Value).setIfInBounds i (.int .i64 n) = #[.int .i64 x'.1, .int .i64 x'.2.1, .int .i64 x'.2.2.1, .int .i64 x'.2.2.2.1, .int .i64 x'.2.2.2.2]) : DecX w (W.setCell ⟨gx, i, none⟩ (.int .i64 n)) v a b l s bad gx x' :=
  ⟨h.st.far i h.gt h.own _, blk_put h.xb i _ e, h.gt, h.own⟩
theorem DecSt.withX (h : DecSt w W v a b l s bad) (x : I5) : DecX w (W.alloc (bxIn x)) v a b l s bad W.heap.size x :=
  ⟨h.alloc _, heap_alloc_last _ _, h.lt, fun e => by have := (Kd.R_bound h.row).1 _ e; omega⟩
end
theorem fields_ev (op : Int) : ∃ p q r t, wire_fields.f op = some (p, q, r, t) := by
  unfold wire_fields.f
  split
  · exact ⟨_, _, _, _, rfl⟩
  split
  · exact ⟨_, _, _, _, rfl⟩
  split
  · exact ⟨_, _, _, _, rfl⟩
  split
  · exact ⟨_, _, _, _, rfl⟩
  exact ⟨_, _, _, _, rfl⟩
theorem pcheck_at {A : Option Addr} {c : Nat} {l : List I5} {a b : Int} {w : World} (hC : Kd.C kIn w A l.length l) (hc : l.length ≤ c) : Calls Try.prog 27 #[.agg #[.slice A l.length c, .int .i64 a, .int .i64 b]] w fun e w' => e = .returned (.int .i64 (checkC l a b)) ∧ Below w.heap.size w w' := by
  have := prog_Check.calls 1 A c (l.map toIn) a b (checkC l a b) w (toCI hC) (by rw [List.length_map]; exact hc) (by rw [check_f, forth_in])
  rwa [List.length_map] at this
theorem dec_wrong2 {w W : World} {tmps : Array Value} (h2 : tmps.getD 2 undef = .pointer (some ⟨w.heap.size, 0, none⟩)) (h3 : tmps.getD 3 undef = .int .i64 140) (hb : W.heap[w.heap.size]? = some (.cells #[.slice none 0 0, .int .i64 0, .int .i64 0] 24 (0, 0))) (hB : Below w.heap.size w W) : bodyPost Try.prog Try.f26 (DecPost w) Exit.ret ⟨tmps, []⟩ (((W.setCell ⟨w.heap.size, 0, none⟩ (.slice none 0 0)).setCell ⟨w.heap.size, 1, none⟩ (.int .i64 0)).setCell ⟨w.heap.size, 2, none⟩ (.int .i64 0)) :=
  dec_wrong h2 h3 (blk_put (blk_put (blk_put hb 0 _ rfl) 1 _ rfl) 2 _ rfl) (below_set (below_set (below_set hB (Nat.le_refl _)) (Nat.le_refl _)) (Nat.le_refl _))
theorem dec_right {w W : World} {A : Option Addr} {c : Nat} {a b : Int} {l : List I5} {s : ByteArray} {bad : Bool} {tmps : Array Value} (h2 : tmps.getD 2 undef = .pointer (some ⟨w.heap.size, 0, none⟩)) (h3 : tmps.getD 3 undef = .int .i64 0) (h : DecSt w W (.slice A l.length c) a b l s bad) (hc : checkC l a b = 0) (hn : l.length ≤ 501) : bodyPost Try.prog Try.f26 (DecPost w) Exit.ret ⟨tmps, []⟩ (((W.setCell ⟨w.heap.size, 0, none⟩ (.slice A l.length c)).setCell ⟨w.heap.size, 1, none⟩ (.int .i64 a)).setCell ⟨w.heap.size, 2, none⟩ (.int .i64 b)) := by
  refine bodyPost_ret (results_ct rfl _ _ w.heap.size 24 #[.slice A l.length c, .int .i64 a, .int .i64 b] (0, 0) _ h2 (blk_put (blk_put (blk_put h.res 0 _ rfl) 1 _ rfl) 2 _ rfl) Try.underlying24 rfl (by kernel_rfl)) rfl ?_
  rw [h3]
  refine ⟨.slice A l.length c, a, b, 0, l, rfl, ?_, fun _ => ⟨hc, hn⟩, fun e => absurd rfl e, below_set (below_set (below_set h.below (Nat.le_refl _)) (Nat.le_refl _)) (Nat.le_refl _)⟩
  exact Kd.R_mono (Kd.R_far (Kd.R_far (Kd.R_far h.row (p := ⟨w.heap.size, 0, none⟩) (fun k hk => by show k ≠ w.heap.size; omega) _) (p := ⟨w.heap.size, 1, none⟩) (fun k hk => by show k ≠ w.heap.size; omega) _) (p := ⟨w.heap.size, 2, none⟩) (fun k hk => by show k ≠ w.heap.size; omega) _) (fun _ _ => trivial)
set_option maxHeartbeats 4000000 in
set_option maxRecDepth 100000 in
theorem decode_at (s : ByteArray) (w : World) (hs : s.size ≤ 500) : Calls Try.prog 26 #[.string s] w (DecPost w) := by
  go_enter Try.func26, Try.ntmps26
  go_wp2_with fail
  refine wp_scope_once 0 rfl ?_
  by_cases hlt : (s.size : Int) - 1 < 3
  · go_wp2_with fail
    refine wp_goto ⟨rfl, ?_⟩
    go_wp2_with fail
    show bodyPost _ _ _ Exit.ret _ _
    exact dec_wrong rfl rfl (al_old (al_old (heap_alloc_last _ _))) ((((Below.refl _ _).alloc (Nat.le_refl _) _).alloc (by simp) _).alloc (by simp; omega) _)
  go_wp2_with fail
  generalize hw3 : (((w.alloc (.cells #[.slice none 0 0, .int .i64 0, .int .i64 0] 24)).alloc (.cells #[.slice none 0 0, .int .i64 0, .int .i64 0] 24)).alloc (.cells #[.string { data := #[] }, .bool false] 63)) = w3
  have hS3 : DecSt w w3 (.slice none 0 0) 0 0 [] ⟨#[]⟩ false := by
    rw [← hw3]
    refine ⟨al_old (al_old (heap_alloc_last _ _)), al_old (heap_at (by simp)), ⟨heap_at (by simp), by omega⟩, Kd.R_nil _ _ _ _ _, (((Below.refl _ _).alloc (Nat.le_refl _) _).alloc (by simp) _).alloc (by simp; omega) _⟩
  have HS3 := Aside0.mk hS3
  clear hS3 hw3
  obtain ⟨hp, Hp⟩ := prefix_at s ⟨#[66, 82, 49]⟩ w3
  refine Hp.mono ?_
  rintro e w4 ⟨rfl, hb4⟩
  have HS4 := Aside0.mk (HS3.out.step hb4)
  clear hb4 HS3 Hp
  cases hp with
  | false =>
    go_wp2_with fail
    refine wp_goto ⟨rfl, ?_⟩
    have r0 := (blk_cell HS4.out.res 0).trans rfl
    have r1 := (blk_cell HS4.out.res 1).trans rfl
    have r2 := (blk_cell HS4.out.res 2).trans rfl
    have f0 := blk_frozen HS4.out.res 0
    have f1 := blk_frozen HS4.out.res 1
    have f2 := blk_frozen HS4.out.res 2
    go_wp2_with fail
    show bodyPost _ _ _ Exit.ret _ _
    exact dec_wrong2 rfl rfl HS4.out.res HS4.out.below
  | true =>
    go_wp2_with fail
    obtain ⟨r, Hr⟩ := sum_at s hs w4
    refine Hr.mono ?_
    rintro e w5 ⟨rfl, hb5⟩
    have HS5 := Aside0.mk (HS4.out.step hb5)
    clear hb5 HS4 Hr
    by_cases hr0 : r = 0
    · subst hr0
      have y0 := cellS63_0 HS5.out.rd.1
      have z0 := blk_frozen HS5.out.rd.1 0
      go_wp2_with fail
      have HS6 := Aside0.mk (HS5.out.setS (s.extract 3 (s.size - 1)))
      clear y0 z0 HS5
      generalize w5.setCell ⟨w.heap.size + 1 + 1, 0, none⟩ (.string (s.extract 3 (s.size - 1))) = w6 at HS6 ⊢
      have HZ6 := Aside0.mk (show (s.extract 3 (s.size - 1)).size ≤ 497 by rw [ByteArray.size_extract]; omega)
      generalize s.extract 3 (s.size - 1) = s6 at HS6 HZ6 ⊢
      refine (number_at HS6.out.rd HS6.out.below).mono ?_
      rintro e w7 ⟨st, s7, b7, rfl, hst, hs7, _, hI7, hB7, hK7⟩
      have HS7 := Aside0.mk (HS6.out.read hI7 hB7 hK7)
      have HZ7 := Aside0.mk (show s7.size ≤ 497 by have := HZ6.out; omega)
      clear hI7 hB7 hK7 hs7 HS6 HZ6
      go_wp2_with fail
      refine (number_at HS7.out.rd HS7.out.below).mono ?_
      rintro e w8 ⟨sl, s8, b8, rfl, hsl, hs8, _, hI8, hB8, hK8⟩
      have HS8 := Aside0.mk (HS7.out.read hI8 hB8 hK8)
      have HZ8 := Aside0.mk (show s8.size ≤ 497 by have := HZ7.out; omega)
      clear hI8 hB8 hK8 hs8 HS7 HZ7
      have c1 := (blk_cell HS8.out.box 1).trans rfl
      have c2 := (blk_cell HS8.out.box 2).trans rfl
      have f1 := blk_frozen HS8.out.box 1
      have f2 := blk_frozen HS8.out.box 2
      go_wp2_with fail
      have HS9 := Aside0.mk ((HS8.out.setA st).setB sl)
      clear c1 c2 f1 f2 HS8
      generalize (w8.setCell ⟨w.heap.size + 1, 1, none⟩ (.int .i64 st)).setCell ⟨w.heap.size + 1, 2, none⟩ (.int .i64 sl) = w9 at HS9 ⊢
      refine (number_at HS9.out.rd HS9.out.below).mono ?_
      rintro e w10 ⟨many, s10, b10, rfl, hmany, hs10, _, hI10, hB10, hK10⟩
      have HS10 := Aside0.mk (HS9.out.read hI10 hB10 hK10)
      have HZ10 := Aside0.mk (show s10.size ≤ 497 by have := HZ8.out; omega)
      clear hI10 hB10 hK10 hs10 HS9 HZ8
      go_wp2_with fail
      go_loopg [9] 600 (fun gq t9 wr => ∃ (i : Int) (v : Value) (l : List I5) (s' : ByteArray) (bad : Bool), t9 = .int .i64 i ∧ 0 ≤ i ∧ (bad = true ∨ s'.size + 1 ≤ gq) ∧ Aside0 ((bad = false → l.length + s'.size ≤ 500) ∧ l.length ≤ 501) ∧ Aside0 (DecSt w wr v st sl l s' bad))
      case atStart => exact ⟨0, _, [], s10, b10, rfl, Int.le_refl _, by have := HZ10.out; exact .inr (by omega), ⟨fun _ => by have := HZ10.out; simp; omega, by simp⟩, HS10⟩
      case round =>
        clear HS10 HZ10
        obtain ⟨i, v, l, s', bad, rfl, hi, hgq, HL, HS⟩ := hrel
        by_cases hlt : i < many
        · cases bad
          · have hq0 := hgq.resolve_left (by decide)
            have HZ := Aside0.mk (show l.length + s'.size ≤ 500 from HL.out.1 rfl)
            have y1 := cellS63_1 HS.out.rd.1
            go_wp2_with fail
            clear y1
            refine (one_at HS.out.rd HS.out.below).mono ?_
            rintro e w11 ⟨op, s11, b11, rfl, hop, hs11, hI11, hB11, hK11⟩
            have HS11 := Aside0.mk (HS.out.read hI11 hB11 hK11)
            have HZ11 := Aside0.mk (show (b11 = false → l.length + 1 + s11.size ≤ 500 ∧ s11.size + 1 ≤ s'.size) by
              intro hb
              have h1 := HZ.out
              rcases hs11 with h | h
              · omega
              · rw [hb] at h; exact absurd h.2 (by decide))
            have HL11 := Aside0.mk (show l.length ≤ 500 by have := HZ.out; omega)
            clear hI11 hB11 hK11 hs11 HZ HS HL hgq
            have hbl : ∀ W, (Instr.build 33 #[(0, .int .i64 op)]).run Try.prog W = .ok (.agg #[.int .i64 op, .int .i64 0, .int .i64 0, .int .i64 0, .int .i64 0]) W := fun W => run_build W 33 _ _ (by kernel_rfl)
            go_wp2_with fail
            have HX := Aside0.mk (HS11.out.withX (op, 0, 0, 0, 0))
            have HM := Aside0.mk (show (b11 = true → b11 = true) ∧ s11.size ≤ s11.size from ⟨fun h => h, Nat.le_refl _⟩)
            clear hbl HS11
            obtain ⟨p1, p2, p3, p4, hp⟩ := fields_ev op
            refine (wire_fields.calls op p1 p2 p3 p4 _ hp).mono ?_
            rintro e w12 ⟨rfl, hd12⟩
            obtain ⟨xn, HX⟩ : ∃ xn : I5, Aside0 (DecX w w12 v st sl l s11 b11 w11.heap.size xn) := ⟨_, ⟨HX.out.step hd12.below⟩⟩
            clear hd12 hp
            go_upto_if 71 with fail
            go_cut [] (fun wc => ∃ (sn : ByteArray) (bn : Bool) (xn : I5), Aside0 ((b11 = true → bn = true) ∧ sn.size ≤ s11.size) ∧ Aside0 (DecX w wc v st sl l sn bn w11.heap.size xn))
            case first =>
              cases p1
              · go_wp2_with fail
                go_meet
                case rel => exact ⟨_, _, _, HM, HX⟩
              · go_wp2_with fail
                refine (number_at HX.out.st.rd HX.out.st.below).mono ?_
                rintro e wn ⟨vn, sn, bn, rfl, hvn, hsn, hbn, hIn, hBn, hKn⟩
                have HXn := Aside0.mk (HX.out.read hIn hBn hKn)
                have HMn := Aside0.mk (show (b11 = true → bn = true) ∧ sn.size ≤ s11.size from ⟨fun h => hbn (HM.out.1 h), Nat.le_trans hsn HM.out.2⟩)
                clear hIn hBn hKn hsn hbn HX HM
                have c0 := (blk_cell HXn.out.xb 1).trans rfl
                have f0 := blk_frozen HXn.out.xb 1
                go_wp2_with fail
                go_meet
                case rel => exact ⟨_, _, _, HMn, ⟨HXn.out.put 1 _ (xn.1, vn, xn.2.2) rfl⟩⟩
            case rest =>
            clear HX HM
            obtain ⟨sn, bn, xn, HM, HX⟩ := hcut
            go_upto_if 75 with fail
            go_cut [] (fun wc => ∃ (sn : ByteArray) (bn : Bool) (xn : I5), Aside0 ((b11 = true → bn = true) ∧ sn.size ≤ s11.size) ∧ Aside0 (DecX w wc v st sl l sn bn w11.heap.size xn))
            case first =>
              cases p2
              · go_wp2_with fail
                go_meet
                case rel => exact ⟨_, _, _, HM, HX⟩
              · go_wp2_with fail
                refine (number_at HX.out.st.rd HX.out.st.below).mono ?_
                rintro e wn ⟨vn, sn, bn, rfl, hvn, hsn, hbn, hIn, hBn, hKn⟩
                have HXn := Aside0.mk (HX.out.read hIn hBn hKn)
                have HMn := Aside0.mk (show (b11 = true → bn = true) ∧ sn.size ≤ s11.size from ⟨fun h => hbn (HM.out.1 h), Nat.le_trans hsn HM.out.2⟩)
                clear hIn hBn hKn hsn hbn HX HM
                have c0 := (blk_cell HXn.out.xb 2).trans rfl
                have f0 := blk_frozen HXn.out.xb 2
                go_wp2_with fail
                go_meet
                case rel => exact ⟨_, _, _, HMn, ⟨HXn.out.put 2 _ (xn.1, xn.2.1, vn, xn.2.2.2) rfl⟩⟩
            case rest =>
            clear HX HM
            obtain ⟨sn, bn, xn, HM, HX⟩ := hcut
            go_upto_if 79 with fail
            go_cut [] (fun wc => ∃ (sn : ByteArray) (bn : Bool) (xn : I5), Aside0 ((b11 = true → bn = true) ∧ sn.size ≤ s11.size) ∧ Aside0 (DecX w wc v st sl l sn bn w11.heap.size xn))
            case first =>
              cases p3
              · go_wp2_with fail
                go_meet
                case rel => exact ⟨_, _, _, HM, HX⟩
              · go_wp2_with fail
                refine (number_at HX.out.st.rd HX.out.st.below).mono ?_
                rintro e wn ⟨vn, sn, bn, rfl, hvn, hsn, hbn, hIn, hBn, hKn⟩
                have HXn := Aside0.mk (HX.out.read hIn hBn hKn)
                have HMn := Aside0.mk (show (b11 = true → bn = true) ∧ sn.size ≤ s11.size from ⟨fun h => hbn (HM.out.1 h), Nat.le_trans hsn HM.out.2⟩)
                clear hIn hBn hKn hsn hbn HX HM
                have c0 := (blk_cell HXn.out.xb 3).trans rfl
                have f0 := blk_frozen HXn.out.xb 3
                go_wp2_with fail
                go_meet
                case rel => exact ⟨_, _, _, HMn, ⟨HXn.out.put 3 _ (xn.1, xn.2.1, xn.2.2.1, vn, xn.2.2.2.2) rfl⟩⟩
            case rest =>
            clear HX HM
            obtain ⟨sn, bn, xn, HM, HX⟩ := hcut
            go_upto_if 83 with fail
            go_cut [] (fun wc => ∃ (sn : ByteArray) (bn : Bool) (xn : I5), Aside0 ((b11 = true → bn = true) ∧ sn.size ≤ s11.size) ∧ Aside0 (DecX w wc v st sl l sn bn w11.heap.size xn))
            case first =>
              cases p4
              · go_wp2_with fail
                go_meet
                case rel => exact ⟨_, _, _, HM, HX⟩
              · go_wp2_with fail
                refine (number_at HX.out.st.rd HX.out.st.below).mono ?_
                rintro e wn ⟨vn, sn, bn, rfl, hvn, hsn, hbn, hIn, hBn, hKn⟩
                have HXn := Aside0.mk (HX.out.read hIn hBn hKn)
                have HMn := Aside0.mk (show (b11 = true → bn = true) ∧ sn.size ≤ s11.size from ⟨fun h => hbn (HM.out.1 h), Nat.le_trans hsn HM.out.2⟩)
                clear hIn hBn hKn hsn hbn HX HM
                have c0 := (blk_cell HXn.out.xb 4).trans rfl
                have f0 := blk_frozen HXn.out.xb 4
                go_wp2_with fail
                go_meet
                case rel => exact ⟨_, _, _, HMn, ⟨HXn.out.put 4 _ (xn.1, xn.2.1, xn.2.2.1, xn.2.2.2.1, vn) rfl⟩⟩
            case rest =>
            clear HX HM
            obtain ⟨sn, bn, xn, HM, HX⟩ := hcut
            obtain ⟨A, c, eA⟩ := Kd.R_slice HX.out.st.row
            have HN := Aside0.mk (show l.length ≤ 500 from HL11.out)
            subst eA
            have k0 := (blk_cell HX.out.st.box 0).trans rfl
            have x0 := (blk_cell HX.out.xb 0).trans rfl
            have x1 := (blk_cell HX.out.xb 1).trans rfl
            have x2 := (blk_cell HX.out.xb 2).trans rfl
            have x3 := (blk_cell HX.out.xb 3).trans rfl
            have x4 := (blk_cell HX.out.xb 4).trans rfl
            go_wp2_with (at_builtin; refine Kd.R_append kIn (w0 := w) (W := wc) w.heap.size rfl (.tmp 88) (.tmp 90) 22 33 (.agg #[.int .i64 0, .int .i64 0, .int .i64 0, .int .i64 0, .int .i64 0]) 40 rfl Try.underlying22 info_cInst rfl (by decide) (by omega) (.slice A l.length c) l xn [.int .i64 xn.1, .int .i64 xn.2.1, .int .i64 xn.2.2.1, .int .i64 xn.2.2.2.1, .int .i64 xn.2.2.2.2] (fun k => w.heap.size + 1 + 1 < k) (fun _ => False) rfl ?aX ?aP (fun _ hk => hk.elim) ?aF HX.out.st.row HX.out.st.below HX.out.st.below.size ?aL ?_; (case aX => (first | rfl | (simp [Act.eval]; done) | (simp [Act.eval] <;> rfl))); (case aP => exact kIn_fixed.make _ _ _ xn); (case aF => exact fun k hk => Nat.lt_of_lt_of_le HX.out.st.lt hk); (case aL => have := HN.out; omega); intro v1 w3 ho hb hg hat; have k3 := (blk_cell (blk_grown HX.out.st.box hg (fun e => by have h9 := HX.out.st.row.1 _ e.symm; omega)) 0).trans rfl; have f3 := blk_frozen (blk_grown HX.out.st.box hg (fun e => by have h9 := HX.out.st.row.1 _ e.symm; omega)) 0; have HS3 := Aside0.mk (HX.out.st.push ho hb hg); clear ho hb hg hat; obtain ⟨A3, c3, e3⟩ := Kd.R_slice HS3.out.row; have hle : (l ++ [xn]).length = l.length + 1 := (by simp); rw [hle] at e3; clear hle; generalize v1 = v3 at HS3 e3; subst e3)
            have hbb : bn = false → b11 = false := fun h => by
              cases hb11 : b11 with
              | false => rfl
              | true => exact absurd (h.symm.trans (HM.out.1 hb11)) (by decide)
            go_roundg (if bn = true then 0 else sn.size + 1)
            case measure =>
              have h1 := HM.out.2
              split
              · omega
              · rename_i hbn
                have := (HZ11.out (hbb (Bool.eq_false_iff.2 hbn))).2
                omega
            case rel =>
              refine ⟨i + 1, _, l ++ [xn], sn, bn, rfl, by omega, by cases bn <;> simp, ⟨fun h => ?_, ?_⟩, HS3⟩
              · have h1 := (HZ11.out (hbb h)).1
                have h2 := HM.out.2
                rw [List.length_append, List.length_singleton]
                omega
              · have := HN.out
                rw [List.length_append, List.length_singleton]
                omega
          · have y1 := cellS63_1 HS.out.rd.1
            have r0 := (blk_cell HS.out.res 0).trans rfl
            have r1 := (blk_cell HS.out.res 1).trans rfl
            have r2 := (blk_cell HS.out.res 2).trans rfl
            have f0 := blk_frozen HS.out.res 0
            have f1 := blk_frozen HS.out.res 1
            have f2 := blk_frozen HS.out.res 2
            go_wp2_with fail
            refine wp_label ?_
            go_wp2_with fail
            show bodyPost _ _ _ Exit.ret _ _
            exact dec_wrong2 rfl rfl HS.out.res HS.out.below
        · cases bad
          · have y0 := cellS63_0 HS.out.rd.1
            have y1 := cellS63_1 HS.out.rd.1
            have r0 := (blk_cell HS.out.res 0).trans rfl
            have r1 := (blk_cell HS.out.res 1).trans rfl
            have r2 := (blk_cell HS.out.res 2).trans rfl
            have f0 := blk_frozen HS.out.res 0
            have f1 := blk_frozen HS.out.res 1
            have f2 := blk_frozen HS.out.res 2
            by_cases hse : s'.toList = ([] : List UInt8)
            · have hsb : (s'.toList == ([] : List UInt8)) = true := beq_iff_eq.mpr hse
              obtain ⟨A, c, eA⟩ := Kd.R_slice HS.out.row
              subst eA
              have k0 := (blk_cell HS.out.box 0).trans rfl
              have k1 := (blk_cell HS.out.box 1).trans rfl
              have k2 := (blk_cell HS.out.box 2).trans rfl
              go_wp2_with fail
              refine (pcheck_at (Kd.R_reads' HS.out.row).2.2 (Kd.R_reads' HS.out.row).2.1).mono ?_
              rintro e w12 ⟨rfl, hb12⟩
              have HS12 := Aside0.mk (HS.out.step hb12)
              clear hb12 HS y0 y1 r0 r1 r2 f0 f1 f2 k0 k1 k2
              have r0 := (blk_cell HS12.out.res 0).trans rfl
              have r1 := (blk_cell HS12.out.res 1).trans rfl
              have r2 := (blk_cell HS12.out.res 2).trans rfl
              have f0 := blk_frozen HS12.out.res 0
              have f1 := blk_frozen HS12.out.res 1
              have f2 := blk_frozen HS12.out.res 2
              have k0 := (blk_cell HS12.out.box 0).trans rfl
              have k1 := (blk_cell HS12.out.box 1).trans rfl
              have k2 := (blk_cell HS12.out.box 2).trans rfl
              by_cases hce : checkC l st sl = 0
              · have HCE := Aside0.mk hce
                rw [hce]
                go_wp2_with fail
                show bodyPost _ _ _ Exit.ret _ _
                exact dec_right rfl rfl HS12.out HCE.out HL.out.2
              · generalize checkC l st sl = ce at hce ⊢
                go_wp2_with fail
                refine wp_label ?_
                go_wp2_with fail
                show bodyPost _ _ _ Exit.ret _ _
                exact dec_wrong2 rfl rfl HS12.out.res HS12.out.below
            · have hsb : (s'.toList == ([] : List UInt8)) = false := beq_eq_false_iff_ne.mpr hse
              go_wp2_with fail
              refine wp_label ?_
              go_wp2_with fail
              show bodyPost _ _ _ Exit.ret _ _
              exact dec_wrong2 rfl rfl HS.out.res HS.out.below
          · have y1 := cellS63_1 HS.out.rd.1
            have r0 := (blk_cell HS.out.res 0).trans rfl
            have r1 := (blk_cell HS.out.res 1).trans rfl
            have r2 := (blk_cell HS.out.res 2).trans rfl
            have f0 := blk_frozen HS.out.res 0
            have f1 := blk_frozen HS.out.res 1
            have f2 := blk_frozen HS.out.res 2
            go_wp2_with fail
            refine wp_label ?_
            go_wp2_with fail
            show bodyPost _ _ _ Exit.ret _ _
            exact dec_wrong2 rfl rfl HS.out.res HS.out.below
    · go_wp2_with fail
      refine wp_goto ⟨rfl, ?_⟩
      have r0 := (blk_cell HS5.out.res 0).trans rfl
      have r1 := (blk_cell HS5.out.res 1).trans rfl
      have r2 := (blk_cell HS5.out.res 2).trans rfl
      have f0 := blk_frozen HS5.out.res 0
      have f1 := blk_frozen HS5.out.res 1
      have f2 := blk_frozen HS5.out.res 2
      go_wp2_with fail
      show bodyPost _ _ _ Exit.ret _ _
      exact dec_wrong2 rfl rfl HS5.out.res HS5.out.below
theorem ck_drewN {W : World} {g : Nat} {l : List I5} {a b : Int} {o : List Int} (h : Ck W g l a b o) (n : Nat) : Ck (W.drewN n) g l a b o := h.step (pw_below_drewN (Below.refl _ _) n)
theorem quiet_len {W : World} {g : Nat} {l : List I5} {a b : Int} {o : List Int} (h : Ck W g l a b o) (n : Nat) : Calls Try.prog 17 #[.pointer (some ⟨g, 0, none⟩)] (W.drewN n) fun e w'' => e = .returned (.int .i64 l.length) ∧ ∃ m, w'' = W.drewN m :=
  Calls.quiet_of_same ((len_at (ck_drewN h n)).mono fun _ _ h => ⟨h.1, h.2.symm⟩)
theorem quiet_slots {W : World} {g : Nat} {l : List I5} {a b : Int} {o : List Int} (h : Ck W g l a b o) (n : Nat) : Calls Try.prog 19 #[.pointer (some ⟨g, 0, none⟩)] (W.drewN n) fun e w'' => e = .returned (.int .i64 b) ∧ ∃ m, w'' = W.drewN m :=
  Calls.quiet_of_same ((slots_at (ck_drewN h n)).mono fun _ _ h => ⟨h.1, h.2.symm⟩)
/-- What a checked program's instructions hold. -/
theorem checked_in {l : List I5} {a b : Int} (h : (lookC l a b).2 = 0) {i : Nat} (hi : i < l.length) : l[i].2.2.2.1 < l.length ∧ l[i].2.2.2.2 < l.length ∧ (l[i].1 = 3 → l[i].2.1 < b) := by
  obtain ⟨h1, h2, h3, _⟩ := look_len h
  obtain ⟨g1, _, _, _, _, g6⟩ := checkC_ok h1
  have hm : l[i] ∈ l := List.getElem_mem hi
  have hf := List.all_eq_true.1 g6 _ hm
  unfold targetsB at h2
  unfold slotsB at h3
  simp only [Bool.and_eq_true, Bool.not_eq_true', List.any_eq_false, decide_eq_true_eq] at h2 h3
  have ht := h2.2 _ hm
  have hs := h3.2.2 _ hm
  generalize l[i] = x at hf ht hs ⊢
  unfold pastB leadsV at ht
  unfold badSlot at hs
  unfold fitsB fieldsL at hf
  simp only [Bool.and_eq_true, decide_eq_true_eq] at hf
  obtain ⟨f1, f2, f3, f4, f5, f6⟩ := hf
  obtain ⟨op, lo, hi', X, Y⟩ := x
  simp only at *
  rcases (show op = 1 ∨ op = 2 ∨ op = 3 ∨ op = 4 ∨ op = 5 ∨ op = 6 by omega) with rfl | rfl | rfl | rfl | rfl | rfl <;> simp [badField, ownV] at f5 ht hs <;> omega
set_option maxHeartbeats 8000000 in
set_option maxRecDepth 100000 in
theorem VerifyBytes_walk (s : ByteArray) (w : World) (hs0 : s.size ≤ 140737488351232) : Calls Try.prog 6 #[.string s] w (fun e w' => e = .returned (.bool true) ∧ Below w.heap.size w w') := by
  go_enter Try.func6, Try.ntmps6
  go_wp2_with fail
  refine (works_at w).mono ?_
  rintro e w1 ⟨rfl, hb1⟩
  have HB1 := Aside0.mk hb1
  clear hb1
  by_cases hs : (s.size : Int) > 500
  · go_wp2
    go_ret
    exact ⟨rfl, HB1.out⟩
  go_wp2_with fail
  refine (decode_at s w1 (by omega)).mono ?_
  rintro e w2 ⟨v, a, b, code, l, rfl, hR, h0, hne, hb2⟩
  have HB2 := Aside0.mk (HB1.out.trans (hb2.mono HB1.out.size))
  clear hb2 HB1
  obtain ⟨A, c, eA⟩ := Kd.R_slice hR
  subst eA
  have HR := Aside0.mk (Kd.R_reads' hR)
  clear hR
  have hal := (Below.refl _ w2).alloc (Nat.le_refl _) (.cells #[.slice A l.length c, .int .i64 a, .int .i64 b] 24)
  have HBX := Aside0.mk (heap_alloc_last w2 (.cells #[.slice A l.length c, .int .i64 a, .int .i64 b] 24))
  have HC := Aside0.mk (Kd.C_below HR.out.2.2 hal)
  have HB3 := Aside0.mk (HB2.out.trans (hal.mono HB2.out.size))
  clear hal HB2
  by_cases hc0 : code = 0
  · subst hc0
    obtain ⟨hck, hlen⟩ := h0 rfl
    have HCK := Aside0.mk hck
    have HLN := Aside0.mk hlen
    clear h0 hne hck hlen
    go_wp2_with fail
    generalize w2.alloc (.cells #[.slice A l.length c, .int .i64 a, .int .i64 b] 24) = w3 at HBX HC HB3 ⊢
    refine (new_at HC.out HR.out.2.1).mono ?_
    rintro e w4 hpost
    rcases hpost with ⟨hne, rfl, hb4⟩ | ⟨he0, g, rfl, hg, hck, hb4⟩
    · have HC4 := Aside0.mk (Kd.C_below HC.out hb4)
      have HBX4 := Aside0.mk ((hb4.block _ (blk_lt HBX.out)).trans HBX.out)
      have HB4 := Aside0.mk (HB3.out.trans (hb4.mono HB3.out.size))
      clear hb4 HC HBX HB3
      have k0 := (blk_cell HBX4.out 0).trans rfl
      have k1 := (blk_cell HBX4.out 1).trans rfl
      have k2 := (blk_cell HBX4.out 2).trans rfl
      have hcode : (lookC l a b).2 = 150 ∨ (lookC l a b).2 = 151 ∨ (lookC l a b).2 = 152 := by
        have hck := HCK.out
        revert hne
        unfold lookC
        rw [if_neg (by rw [hck]; decide)]
        repeat' split
        all_goals simp
      generalize (lookC l a b).2 = code at hcode hne ⊢
      clear hne
      rcases hcode with rfl | rfl | rfl
      all_goals
        go_wp2_with fail
        refine (pcheck_at HC4.out HR.out.2.1).mono ?_
        rintro e w5 ⟨rfl, hb5⟩
        have HB5 := Aside0.mk (HB4.out.trans (hb5.mono HB4.out.size))
        clear hb5
        rw [HCK.out]
        go_wp2
        go_ret
        exact ⟨rfl, HB5.out⟩
    · have HIN := Aside0.mk (fun (i : Nat) (hi : i < l.length) => checked_in he0 hi)
      obtain ⟨q1, q2, q3, _⟩ := look_len he0
      obtain ⟨m1, m2, m3, m4, m5, _⟩ := checkC_ok q1
      have hst : a < (l.length : Int) := by
        unfold targetsB at q2
        simp only [Bool.and_eq_true, decide_eq_true_eq] at q2
        exact q2.1
      have HK := Aside0.mk hck
      have HB4 := Aside0.mk (HB3.out.trans (hb4.mono HB3.out.size))
      generalize (lookC l a b).1 = o at HK
      clear hck hb4 HB3 HBX HC HCK he0 q1 q2 q3
      go_wp2_with fail
      refine (len_at HK.out).mono ?_
      rintro e w' ⟨rfl, rfl⟩
      obtain ⟨n, hn⟩ : ∃ n, l.length = n := ⟨_, rfl⟩
      have HNE := Aside0.mk hn
      rw [hn] at m2 hst ⊢
      clear hn m1
      go_wp2_with fail
      go_loopg [53] 5000 (fun gq t53 wr => ∃ i : Nat, i ≤ n ∧ n - i + 1 ≤ gq ∧ t53 = .int .i64 i ∧ Aside0 (Ck wr g l a b o) ∧ Aside0 (Below w.heap.size w wr))
      case atStart => exact ⟨0, Nat.zero_le _, by omega, rfl, HK, HB4⟩
      case round =>
        clear HK HB4
        obtain ⟨i, hi, hgq, rfl, HK, HB⟩ := hrel
        by_cases hlt : i < n
        · have hltI : (i : Int) < (n : Int) := by omega
          go_wp2_with fail
          have hil : i < l.length := by rw [HNE.out]; exact hlt
          refine (inst_in HK.out i hil (by rw [HNE.out]; omega)).mono ?_
          rintro e w5 ⟨rfl, hb5⟩
          have HX := Aside0.mk (HIN.out i hil)
          rw [HNE.out] at HX
          generalize l[i] = x at HX ⊢
          have hal := (Below.refl _ w5).alloc (Nat.le_refl _) (bxIn x)
          have HBX := Aside0.mk (heap_alloc_last w5 (bxIn x))
          have HK6 := Aside0.mk ((HK.out.step hb5).step hal)
          have HB6 := Aside0.mk ((HB.out.trans (hb5.mono HB.out.size)).trans (hal.mono (HB.out.trans (hb5.mono HB.out.size)).size))
          clear hb5 hal HK HB hil
          go_wp2_with fail
          generalize w5.alloc (bxIn x) = w6 at HBX HK6 HB6 ⊢
          have z0 := (blk_cell HBX.out 0).trans rfl
          have z1 := (blk_cell HBX.out 1).trans rfl
          have z3 := (blk_cell HBX.out 3).trans rfl
          have z4 := (blk_cell HBX.out 4).trans rfl
          have y3 : decide ((n : Int) ≤ x.2.2.2.1) = false := decide_eq_false (by have := HX.out.1; omega)
          have y4 : decide ((n : Int) ≤ x.2.2.2.2) = false := decide_eq_false (by have := HX.out.2.1; omega)
          have HL := Aside0.mk (fun k => HNE.out ▸ quiet_len HK6.out k)
          by_cases hop : x.1 = 3
          · have yb : decide (b ≤ x.2.1) = false := decide_eq_false (by have := HX.out.2.2 hop; omega)
            have hop2 : (x.1 == 3) = true := beq_iff_eq.mpr hop
            go_quiet (first | exact HL.out _ | exact quiet_slots HK6.out _)
            go_wp2_with fail
            go_roundg (n - i)
            case measure => omega
            case rel => exact ⟨i + 1, by omega, by omega, by simp, ⟨ck_drewN HK6.out _⟩, ⟨pw_below_drewN HB6.out _⟩⟩
          · have hop2 : (x.1 == 3) = false := beq_eq_false_iff_ne.mpr hop
            go_quiet (first | exact HL.out _ | exact quiet_slots HK6.out _)
            go_wp2_with fail
            go_roundg (n - i)
            case measure => omega
            case rel => exact ⟨i + 1, by omega, by omega, by simp, ⟨ck_drewN HK6.out _⟩, ⟨pw_below_drewN HB6.out _⟩⟩
        · have hltI : ¬ (i : Int) < (n : Int) := by omega
          go_wp2_with fail
          refine (start_at HK.out).mono ?_
          rintro e w' ⟨rfl, rfl⟩
          go_wp2_with fail
          refine (len_at HK.out).mono ?_
          rintro e w' ⟨rfl, rfl⟩
          rw [HNE.out]
          go_wp2_with fail
          refine (slots_at HK.out).mono ?_
          rintro e w' ⟨rfl, rfl⟩
          go_wp2
          go_ret
          exact ⟨rfl, HB.out⟩
  · have hl := hne hc0
    subst hl
    clear h0 hne
    go_wp2
    go_ret
    exact ⟨rfl, HB3.out⟩
end Go.Proofs.Ytepjoiclfoopeaa.Pure
