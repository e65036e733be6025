/- VerifyChecks: any program of at most 40 instructions, or of more than a program may have; between these nothing is said. -/
import Derived.Test.YtepjoiclfoopeaaPureVerifyRefs
import Derived.Test.YtepjoiclfoopeaaXVerifyMore
import Derived.Test.YtepjoiclfoopeaaXOpenProg
import Derived.Laws.Closers25b
namespace Go.Proofs.Ytepjoiclfoopeaa.Pure
open Go.RowKit Go.Proofs.Ytepjoiclfoopeaa.HVerifyChecks Go.Proofs.YtepjoiclfoopeaaW.PrintWords Go.Proofs.YtepjoiclfoopeaaW.PrintLast
open Go.Proofs.YtepjoiclfoopeaaX
set_option linter.unusedVariables false
set_option linter.unusedSimpArgs false
theorem rows_C {W : World} {B n : Nat} {l : List I5} (h : W.heap[B]? = some (.cells (l.flatMap encInst).toArray 33 (0, 0))) (hn : l.length = n) (hm : n ≤ 4000) : Kd.C kIn W (some ⟨B, 0, none⟩) n l := by
  subst hn
  have hlen := flat_len (enc := encInst) 5 (fun _ => rfl) l
  have : Kd.R kIn 33 W 0 (fun _ => True) (.slice (some ⟨B, 0, none⟩) l.length l.length) l := (fixed_R kIn_fixed).2 ⟨fun _ _ => trivial, hlen, .inr ⟨B, l.length, _, rfl, Nat.zero_le _, h, Nat.le_refl _, by unfold maxLen; omega, by rw [List.size_toArray]; exact hlen, by rw [List.toList_toArray, ← show (l.flatMap encInst).length = l.length * kIn.sz from hlen]; exact List.take_length⟩⟩
  exact (Kd.R_reads' this).2.2
theorem sameI_l0 (s : List Int) (hn : s.length ≤ 2000000) (d : Nat) : ∀ i : Nat, i ≤ s.length → s.length - i = d → Ev (fun k => burinbook_SameInts.l0 k s s true i) true := by
  induction d with
  | zero =>
    intro i hi hd
    refine Ev.step (fun k => ?_) (Ev.now _)
    simp only [burinbook_SameInts.l0]
    rw [if_pos trivial, if_neg (by omega)]
  | succ d ih =>
    intro i hi hd
    refine Ev.step (fun k => ?_) (ih (i + 1) (by omega) (by omega))
    simp only [burinbook_SameInts.l0]
    rw [if_pos trivial, if_pos (by omega), if_pos (by omega), if_pos (by omega), wrap_v (x := (i : Int) + 1) (y := ((i + 1 : Nat) : Int)) (by omega) (by omega) (by omega)]
    simp
theorem sameI_ev (s : List Int) (hn : s.length ≤ 2000000) : Ev (fun k => burinbook_SameInts.f k s s) true := by
  have := sameI_l0 s hn _ 0 (Nat.zero_le _) rfl
  unfold burinbook_SameInts.f
  simpa using this
theorem sameI_at {A A' : Option Addr} {c c' : Nat} {s : List Int} {w : World} (hn : s.length ≤ 2000000) (h : Kd.C (Kd.int .i64) w A s.length s) (hc : s.length ≤ c) (h' : Kd.C (Kd.int .i64) w A' s.length s) (hc' : s.length ≤ c') :
    Calls Try.prog 21 #[.slice A s.length c, .slice A' s.length c'] w (fun e w' => e = .returned (.bool true) ∧ Below w.heap.size w w') := by
  obtain ⟨k, hk⟩ := Ev.rounds (sameI_ev s hn)
  exact (burinbook_SameInts.calls k A c s A' c' s true w h hc h' hc' hk).mono fun e w' ⟨he, hd⟩ => ⟨he, hd.below⟩
theorem reached_at {W : World} {g : Nat} {l : List I5} {a b : Int} {o r : List Int} (h : Ck W g l a b o) (hr : ∃ k, verify_Checked_Reached.f k (l.map toIn) a b o = some (r, a, b)) :
    Calls Try.prog 20 #[.pointer (some ⟨g, 0, none⟩)] W fun e w' => ∃ v, e = .returned v ∧ Kd.R (Kd.int .i64) 3 w' W.heap.size (fun _ => True) v r ∧ Ck w' g l a b o ∧ ∀ base, base ≤ g → base ≤ W.heap.size → Below base W w' := by
  obtain ⟨w0, A0, c0, A3, c3, h1, h2, h3, h4, h5⟩ := h
  obtain ⟨k, hk⟩ := hr
  refine (verify_Checked_Reached.calls k g (l.map toIn) a b o r a b w0 W ⟨A0, c0, A3, c3, by rw [List.length_map]; exact h1, h2, toCI h4 |> fun h => by rw [List.length_map] at h ⊢; exact h, h5⟩ h3 hk).mono fun e w' h => ?_
  obtain ⟨v, he, hR, ⟨B0, d0, B3, d3, g1, g2, g3, g4⟩, hb, hk⟩ := h
  rw [List.length_map] at g1 g3
  refine ⟨v, he, hR, ⟨w0, B0, d0, B3, d3, g1, h2, hb, ?_, g4⟩, fun base hbg hbW => ⟨hb.os.trans h3.os.symm, hb.tape.trans h3.tape.symm, hb.output.trans h3.output.symm, hk.1, fun j hj => hk.2 j (by omega) (by omega) (by simp)⟩⟩
  have := (C_iso (d := kIn) (f := inOf)).1 g3
  rwa [forth_in] at this
theorem two_loop : lookC [(2, 0, 0, 0, 1), (5, 0, 0, 0, 0)] 0 2 = ([], 151) := by decide +kernel
theorem one_fine : lookC [(1, 0, 255, 0, 0)] 0 2 = ([0], 0) := by decide +kernel
theorem one_reached : ∃ k, verify_Checked_Reached.f k ([(1, 0, 255, 0, 0)].map toIn) 0 2 [0] = some ([0], 0, 2) := ⟨6, by decide +kernel⟩
theorem al_old {w : World} {o x : Obj} {k : Nat} (h : w.heap[k]? = some x) : (w.alloc o).heap[k]? = some x := (((Below.refl _ w).alloc (Nat.le_refl _) o).block _ (blk_lt h)).trans h
theorem ints_C {W : World} {B n : Nat} {l : List Int} (h : W.heap[B]? = some (.cells (l.flatMap encInt).toArray 3 (0, 0))) (hn : l.length = n) (hm : n ≤ 4000) : Kd.C (Kd.int .i64) W (some ⟨B, 0, none⟩) n l := by
  subst hn
  have hlen := flat_len (enc := encInt) 1 (fun _ => rfl) l
  have : Kd.R (Kd.int .i64) 3 W 0 (fun _ => True) (.slice (some ⟨B, 0, none⟩) l.length l.length) l := (fixed_R kI_fixed).2 ⟨fun _ _ => trivial, hlen, .inr ⟨B, l.length, _, rfl, Nat.zero_le _, h, Nat.le_refl _, by unfold maxLen; omega, by rw [List.size_toArray]; exact hlen, by rw [List.toList_toArray, ← show (l.flatMap encInt).length = l.length * kI.sz from hlen]; exact List.take_length⟩⟩
  exact (Kd.R_reads' this).2.2
set_option maxHeartbeats 4000000 in
set_option maxRecDepth 100000 in
theorem works_at (w : World) : Calls Try.prog 7 #[] w (fun e w' => e = .returned (.bool true) ∧ Below w.heap.size w w') := by
  have b1 : ∀ W, (Instr.build 33 #[(0, .int .i64 2), (3, .int .i64 0), (4, .int .i64 1)]).run Try.prog W = .ok (.agg #[.int .i64 2, .int .i64 0, .int .i64 0, .int .i64 0, .int .i64 1]) W := fun W => run_build W 33 _ _ (by kernel_rfl)
  have b2 : ∀ W, (Instr.build 33 #[(0, .int .i64 5)]).run Try.prog W = .ok (.agg #[.int .i64 5, .int .i64 0, .int .i64 0, .int .i64 0, .int .i64 0]) W := fun W => run_build W 33 _ _ (by kernel_rfl)
  have b3 : ∀ W, (Instr.build 33 #[(0, .int .i64 1), (2, .int .i64 255)]).run Try.prog W = .ok (.agg #[.int .i64 1, .int .i64 0, .int .i64 255, .int .i64 0, .int .i64 0]) W := fun W => run_build W 33 _ _ (by kernel_rfl)
  have b4 : ∀ W v, (Instr.build 24 #[(2, .int .i64 2), (0, .slice (some v) 2 2)]).run Try.prog W = .ok (.agg #[.slice (some v) 2 2, .int .i64 0, .int .i64 2]) W := fun W v => run_build W 24 _ _ (by kernel_rfl)
  have b5 : ∀ W v, (Instr.build 24 #[(2, .int .i64 2), (0, .slice (some v) 1 1)]).run Try.prog W = .ok (.agg #[.slice (some v) 1 1, .int .i64 0, .int .i64 2]) W := fun W v => run_build W 24 _ _ (by kernel_rfl)
  go_enter Try.func7, Try.ntmps7
  go_wp2_with fail
  generalize hw4 : (((w.alloc (.cells #[.int .i64 2, .int .i64 0, .int .i64 0, .int .i64 0, .int .i64 1, .int .i64 5, .int .i64 0, .int .i64 0, .int .i64 0, .int .i64 0] 33)).alloc (.cells #[.slice (some ⟨w.heap.size, 0, none⟩) 2 2, .int .i64 0, .int .i64 2] 24)).alloc (.cells #[.int .i64 1, .int .i64 0, .int .i64 255, .int .i64 0, .int .i64 0] 33)).alloc (.cells #[.slice (some ⟨w.heap.size + 1 + 1, 0, none⟩) 1 1, .int .i64 0, .int .i64 2] 24) = w4
  have hB : Below w.heap.size w w4 := by
    rw [← hw4]
    exact ((((Below.refl _ w).alloc (Nat.le_refl _) _).alloc (by simp) _).alloc (by simp; omega) _).alloc (by simp; omega) _
  have h0 : w4.heap[w.heap.size]? = some (.cells #[.int .i64 2, .int .i64 0, .int .i64 0, .int .i64 0, .int .i64 1, .int .i64 5, .int .i64 0, .int .i64 0, .int .i64 0, .int .i64 0] 33 (0, 0)) := by
    rw [← hw4]
    exact al_old (al_old (al_old (heap_alloc_last w _)))
  have h1 : w4.heap[w.heap.size + 1]? = some (.cells #[.slice (some ⟨w.heap.size, 0, none⟩) 2 2, .int .i64 0, .int .i64 2] 24 (0, 0)) := by
    rw [← hw4]
    exact al_old (al_old (heap_at (by simp)))
  have h2 : w4.heap[w.heap.size + 1 + 1]? = some (.cells #[.int .i64 1, .int .i64 0, .int .i64 255, .int .i64 0, .int .i64 0] 33 (0, 0)) := by
    rw [← hw4]
    exact al_old (heap_at (by simp))
  have HN := Aside0.mk (new_at (l := [(1, 0, 255, 0, 0)]) (a := 0) (b := 2) (c := 1) (rows_C (n := 1) h2 rfl (by decide)) (by decide))
  have HB := Aside0.mk hB
  have H0 := Aside0.mk h0
  have H1 := Aside0.mk h1
  clear hB h0 h1 h2 hw4 b1 b2 b3 b4 b5
  refine HN.out.mono ?_
  rintro e w5 hpost
  rcases hpost with ⟨hne, _⟩ | ⟨_, g, rfl, hg, hck, hb5⟩
  · exact absurd (by rw [one_fine]) hne
  rw [one_fine] at hck
  have HK := Aside0.mk hck
  have HB5 := Aside0.mk (HB.out.trans (hb5.mono HB.out.size))
  have HG := Aside0.mk (show w.heap.size ≤ g from Nat.le_trans HB.out.size hg)
  have k0 : w5.cell? ⟨w.heap.size + 1, 0, none⟩ = some (.slice (some ⟨w.heap.size, 0, none⟩) 2 2) := (hb5.cell (p := ⟨w.heap.size + 1, 0, none⟩) (blk_lt H1.out)).trans ((blk_cell H1.out 0).trans rfl)
  have k1 : w5.cell? ⟨w.heap.size + 1, 1, none⟩ = some (.int .i64 0) := (hb5.cell (p := ⟨w.heap.size + 1, 1, none⟩) (blk_lt H1.out)).trans ((blk_cell H1.out 1).trans rfl)
  have k2 : w5.cell? ⟨w.heap.size + 1, 2, none⟩ = some (.int .i64 2) := (hb5.cell (p := ⟨w.heap.size + 1, 2, none⟩) (blk_lt H1.out)).trans ((blk_cell H1.out 2).trans rfl)
  have HC := Aside0.mk (vcheck_at (w := w5) (l := [(2, 0, 0, 0, 1), (5, 0, 0, 0, 0)]) (a := 0) (b := 2) (c := 2) (rows_C (n := 2) ((hb5.block _ (blk_lt H0.out)).trans H0.out) rfl (by decide)) (by decide))
  rw [two_loop] at HC
  clear hck hb5 hg HN HB
  go_wp2_with fail
  refine HC.out.mono ?_
  rintro e w6 ⟨rfl, hb6⟩
  have HK6 := Aside0.mk (HK.out.step hb6)
  have HB6 := Aside0.mk (HB5.out.trans (hb6.mono HB5.out.size))
  clear hb6 HK HB5 HC k0 k1 k2
  go_wp2_with fail
  refine (len_at HK6.out).mono ?_
  rintro e w' ⟨rfl, rfl⟩
  go_wp2_with fail
  refine (slots_at HK6.out).mono ?_
  rintro e w' ⟨rfl, rfl⟩
  go_wp2_with fail
  refine (order_at HK6.out (by decide)).mono ?_
  rintro e w7 ⟨v7, rfl, hR7, hb7⟩
  obtain ⟨A7, c7, rfl⟩ := Kd.R_slice hR7
  have HR7 := Aside0.mk hR7
  have HK7 := Aside0.mk (HK6.out.step hb7)
  have HB7 := Aside0.mk (HB6.out.trans (hb7.mono HB6.out.size))
  clear hR7 hb7 HK6 HB6
  go_wp2_with fail
  have hal := heap_alloc_last w7 (.cells #[.int .i64 0] 3)
  have hab := (Below.refl _ w7).alloc (Nat.le_refl _) (.cells #[.int .i64 0] 3)
  refine (sameI_at (s := [0]) (by decide) (Kd.C_below (Kd.R_reads' HR7.out).2.2 hab) (Kd.R_reads' HR7.out).2.1 (ints_C (n := 1) (l := [0]) hal rfl (by decide)) (by decide)).mono ?_
  rintro e w8 ⟨rfl, hb8⟩
  have hb78 := hab.trans (hb8.mono hab.size)
  have HK8 := Aside0.mk (HK7.out.step hb78)
  have HB8 := Aside0.mk (HB7.out.trans (hb78.mono HB7.out.size))
  clear hb8 hab hal hb78 HK7 HB7 HR7
  go_wp2_with fail
  refine (reached_at HK8.out one_reached).mono ?_
  rintro e w9 ⟨v9, rfl, hR9, _, hb9⟩
  obtain ⟨A9, c9, rfl⟩ := Kd.R_slice hR9
  have HR9 := Aside0.mk hR9
  have HB9 := Aside0.mk (HB8.out.trans (hb9 w.heap.size HG.out HB8.out.size))
  clear hR9 hb9 HK8 HB8
  go_wp2_with fail
  have hal := heap_alloc_last w9 (.cells #[.int .i64 0] 3)
  have hab := (Below.refl _ w9).alloc (Nat.le_refl _) (.cells #[.int .i64 0] 3)
  refine (sameI_at (s := [0]) (by decide) (Kd.C_below (Kd.R_reads' HR9.out).2.2 hab) (Kd.R_reads' HR9.out).2.1 (ints_C (n := 1) (l := [0]) hal rfl (by decide)) (by decide)).mono ?_
  rintro e w10 ⟨rfl, hb10⟩
  have HB10 := Aside0.mk (HB9.out.trans ((hab.trans (hb10.mono hab.size)).mono HB9.out.size))
  clear hb10 hab hal HB9 HR9
  go_wp2
  go_ret
  exact ⟨rfl, HB10.out⟩
/-! What the law calls. -/
abbrev bxIn (x : I5) : Obj := .cells #[.int .i64 x.1, .int .i64 x.2.1, .int .i64 x.2.2.1, .int .i64 x.2.2.2.1, .int .i64 x.2.2.2.2] 33 (0, 0)
theorem new_atB {A : Option Addr} {c : Nat} {l : List I5} {a b : Int} {w : World} (hC : Kd.C kIn w A l.length l) (hc : l.length ≤ c) : Calls Try.prog 8 #[.agg #[.slice A l.length c, .int .i64 a, .int .i64 b]] w (NewPostB w l a b) :=
  new_anyB lookAt A c l a b w hC hc (fun h => (checkC_ok (look_len h).1).2.1)
theorem rcheck_at {A : Option Addr} {c : Nat} {l : List I5} {a b : Int} {w : World} (hC : Kd.C kIn w A l.length l) (hc : l.length ≤ c) : Calls Try.prog 12 #[.agg #[.slice A l.length c, .int .i64 a, .int .i64 b]] w fun e w' => e = .returned (.int .i64 (lookC l a b).2) ∧ Below w.heap.size w w' := by
  obtain ⟨k, hk⟩ := (rcheck_ev l a b).rounds
  have := burinref16_Check.calls k A c (l.map toIn) a b _ w (toCI hC) (by rw [List.length_map]; exact hc) hk
  rwa [List.length_map] at this
theorem rorder_at {A : Option Addr} {c : Nat} {l : List I5} {a b : Int} {w : World} (hC : Kd.C kIn w A l.length l) (hc : l.length ≤ c) (hn : l.length ≤ 1000000) : Calls Try.prog 22 #[.agg #[.slice A l.length c, .int .i64 a, .int .i64 b]] w fun e w' => ∃ v, e = .returned v ∧ Kd.R (Kd.int .i64) 3 w' w.heap.size (fun _ => True) v (refOrdF l l.length []) ∧ Below w.heap.size w w' := by
  obtain ⟨k, hk⟩ := (order_ev l a b hn).rounds
  have := burinref16_Order.calls k A c (l.map toIn) a b _ w (toCI hC) (by rw [List.length_map]; exact hc) hk
  rwa [List.length_map] at this
theorem rreached_at {A : Option Addr} {c : Nat} {l : List I5} {a b : Int} {r : List Int} {w : World} (hC : Kd.C kIn w A l.length l) (hc : l.length ≤ c) (hr : Ev (fun k => burinref16_Reached.f k (l.map toIn) a b) r) : Calls Try.prog 23 #[.agg #[.slice A l.length c, .int .i64 a, .int .i64 b]] w fun e w' => ∃ v, e = .returned v ∧ Kd.R (Kd.int .i64) 3 w' w.heap.size (fun _ => True) v r ∧ Below w.heap.size w w' := by
  obtain ⟨k, hk⟩ := hr.rounds
  have := burinref16_Reached.calls k A c (l.map toIn) a b _ w (toCI hC) (by rw [List.length_map]; exact hc) hk
  rwa [List.length_map] at this
theorem same5_l0 (s : List S33) (hn : s.length ≤ 4611686018427387904) (d : Nat) : ∀ i : Nat, i + d = s.length → Ev (fun k => burinbook_SameInsts.l0 k s s true i) true := by
  induction d with
  | zero =>
    intro i hi
    refine Ev.step (fun k => ?_) (Ev.now _)
    simp only [burinbook_SameInsts.l0]
    rw [if_pos trivial, if_neg (by omega)]
  | succ d ih =>
    intro i hi
    refine Ev.step (fun k => ?_) (ih (i + 1) (by omega))
    simp only [burinbook_SameInsts.l0]
    rw [if_pos trivial, if_pos (by omega), if_pos (by omega), if_pos (by omega), wrap_v (x := (i : Int) + 1) (y := ((i + 1 : Nat) : Int)) (by omega) (by omega) (by omega)]
    simp
theorem same5_ev (s : List S33) (hn : s.length ≤ 4611686018427387904) : Ev (fun k => burinbook_SameInsts.f k s s) true := by
  have := same5_l0 s hn s.length 0 (by omega)
  unfold burinbook_SameInsts.f
  simpa using this
theorem same5_at {A A' : Option Addr} {c c' : Nat} {l : List I5} {w : World} (hn : l.length ≤ 4611686018427387904) (h : Kd.C kIn w A l.length l) (hc : l.length ≤ c) (h' : Kd.C kIn w A' l.length l) (hc' : l.length ≤ c') : Calls Try.prog 13 #[.slice A l.length c, .slice A' l.length c'] w (fun e w' => e = .returned (.bool true) ∧ Below w.heap.size w w') := by
  obtain ⟨k, hk⟩ := (same5_ev (l.map toIn) (by rw [List.length_map]; exact hn)).rounds
  have := burinbook_SameInsts.calls k A c (l.map toIn) A' c' (l.map toIn) true w (toCI h) (by rw [List.length_map]; exact hc) (toCI h') (by rw [List.length_map]; exact hc') hk
  rw [List.length_map] at this
  exact this.mono fun e w' ⟨he, hd⟩ => ⟨he, hd.below⟩
theorem sameP_at {A A' : Option Addr} {c c' : Nat} {l : List I5} {a b : Int} {w : World} (hn : l.length ≤ 4611686018427387904) (h : Kd.C kIn w A l.length l) (hc : l.length ≤ c) (h' : Kd.C kIn w A' l.length l) (hc' : l.length ≤ c') : Calls Try.prog 16 #[.agg #[.slice A l.length c, .int .i64 a, .int .i64 b], .agg #[.slice A' l.length c', .int .i64 a, .int .i64 b]] w (fun e w' => e = .returned (.bool true) ∧ Below w.heap.size w w') := by
  have hev : Ev (fun k => burinbook_SameProg.f k (l.map toIn) a b (l.map toIn) a b) true := by
    unfold burinbook_SameProg.f
    refine Ev.congr (fun k => by rw [if_pos rfl, if_pos rfl]) ?_
    exact Ev.bind (same5_ev (l.map toIn) (by rw [List.length_map]; exact hn)) (Ev.now _)
  obtain ⟨k, hk⟩ := hev.rounds
  have := burinbook_SameProg.calls k A c (l.map toIn) a b A' c' (l.map toIn) a b true w (toCI h) (by rw [List.length_map]; exact hc) (toCI h') (by rw [List.length_map]; exact hc') hk
  rwa [List.length_map] at this
/-- What is written into a block made later does it no harm. -/
theorem ck_late {W W2 : World} {g : Nat} {l : List I5} {a b : Int} {o : List Int} (h : Ck W g l a b o) {row : Option Nat} (hrow : ∀ k, row = some k → g < k) {B : Nat} (hB : Below B W W2) (hk : ∀ k, some k ≠ row → W2.heap[k]? = W.heap[k]?) : Ck W2 g l a b o := by
  obtain ⟨w0, A0, c0, A3, c3, h1, h2, h3, h4, h5⟩ := h
  have hne : ∀ {k : Nat}, k ≤ g → some k ≠ row := fun hk e => by have := hrow _ e.symm; omega
  exact ⟨w0, A0, c0, A3, c3, (hk g (hne (Nat.le_refl _))).trans h1, h2, ⟨hB.os.trans h3.os, hB.tape.trans h3.tape, hB.output.trans h3.output, Nat.le_trans h3.size hB.size, fun k hlt => (hk k (hne (by omega))).trans (h3.block k hlt)⟩, h4, h5⟩
theorem reached_at2 {W : World} {g : Nat} {l : List I5} {a b : Int} {o r : List Int} (h : Ck W g l a b o) (hr : ∃ k, verify_Checked_Reached.f k (l.map toIn) a b o = some (r, a, b)) :
    Calls Try.prog 20 #[.pointer (some ⟨g, 0, none⟩)] W fun e w' => ∃ v, e = .returned v ∧ Kd.R (Kd.int .i64) 3 w' W.heap.size (fun _ => True) v r ∧ Ck w' g l a b o ∧ KeepBut W w' g none ∧ ∀ base, base ≤ g → base ≤ W.heap.size → Below base W w' := by
  obtain ⟨w0, A0, c0, A3, c3, h1, h2, h3, h4, h5⟩ := h
  obtain ⟨k, hk⟩ := hr
  refine (verify_Checked_Reached.calls k g (l.map toIn) a b o r a b w0 W ⟨A0, c0, A3, c3, by rw [List.length_map]; exact h1, h2, toCI h4 |> fun h => by rw [List.length_map] at h ⊢; exact h, h5⟩ h3 hk).mono fun e w' h => ?_
  obtain ⟨v, he, hR, ⟨B0, d0, B3, d3, g1, g2, g3, g4⟩, hb, hk⟩ := h
  rw [List.length_map] at g1 g3
  refine ⟨v, he, hR, ⟨w0, B0, d0, B3, d3, g1, h2, hb, ?_, g4⟩, hk, fun base hbg hbW => ⟨hb.os.trans h3.os.symm, hb.tape.trans h3.tape.symm, hb.output.trans h3.output.symm, hk.1, fun j hj => hk.2 j (by omega) (by omega) (by simp)⟩⟩
  have := (C_iso (d := kIn) (f := inOf)).1 g3
  rwa [forth_in] at this
/-- The program that came in, and what lies ahead. -/
structure PB (w W : World) (A : Option Addr) (c : Nat) (l : List I5) (a b : Int) : Prop where
  box : W.heap[w.heap.size]? = some (.cells #[.slice A l.length c, .int .i64 a, .int .i64 b] 24 (0, 0))
  below : Below w.heap.size w W
section
variable {w W W2 : World} {A : Option Addr} {c : Nat} {l : List I5} {a b : Int}
theorem PB.step (h : PB w W A c l a b) (hb : Below W.heap.size W W2) : PB w W2 A c l a b := ⟨(hb.block _ (blk_lt h.box)).trans h.box, h.below.trans (hb.mono h.below.size)⟩
theorem PB.rows (h : PB w W A c l a b) (hC : Kd.C kIn w A l.length l) : Kd.C kIn W A l.length l := Kd.C_below hC h.below
theorem PB.spoil (h : PB w W A c l a b) {row : Option Nat} (hrow : ∀ k, row = some k → w.heap.size < k) {B : Nat} (hB : Below B W W2) (hBw : w.heap.size ≤ B) (hk : ∀ k, some k ≠ row → W2.heap[k]? = W.heap[k]?) : PB w W2 A c l a b :=
  ⟨(hk _ (fun e => by have := hrow _ e.symm; omega)).trans h.box, h.below.trans (hB.mono hBw)⟩
theorem PB.keep (h : PB w W A c l a b) {g : Nat} (hg : w.heap.size < g) (hk : KeepBut W W2 g none) (hB : Below w.heap.size W W2) : PB w W2 A c l a b :=
  ⟨hk.blk h.box (by omega) (by simp), h.below.trans hB⟩
theorem PB.c0 (h : PB w W A c l a b) : W.cell? ⟨w.heap.size, 0, none⟩ = some (.slice A l.length c) := (blk_cell h.box 0).trans rfl
theorem PB.c1 (h : PB w W A c l a b) : W.cell? ⟨w.heap.size, 1, none⟩ = some (.int .i64 a) := (blk_cell h.box 1).trans rfl
theorem PB.c2 (h : PB w W A c l a b) : W.cell? ⟨w.heap.size, 2, none⟩ = some (.int .i64 b) := (blk_cell h.box 2).trans rfl
end
theorem keep6 {w W : World} {A A9 : Option Addr} {c c9 n gq : Nat} {l : List I5} {a b : Int} (h : PB w W A c l a b) (hq : W.heap[gq]? = some (.cells #[.slice A9 n c9, .int .i64 a, .int .i64 b] 24 (0, 0))) : W.cell? ⟨w.heap.size, 0, none⟩ = some (.slice A l.length c) ∧ W.cell? ⟨w.heap.size, 1, none⟩ = some (.int .i64 a) ∧ W.cell? ⟨w.heap.size, 2, none⟩ = some (.int .i64 b) ∧ W.cell? ⟨gq, 0, none⟩ = some (.slice A9 n c9) ∧ W.cell? ⟨gq, 1, none⟩ = some (.int .i64 a) ∧ W.cell? ⟨gq, 2, none⟩ = some (.int .i64 b) :=
  ⟨h.c0, h.c1, h.c2, (blk_cell hq 0).trans rfl, (blk_cell hq 1).trans rfl, (blk_cell hq 2).trans rfl⟩
theorem keep3 {w W : World} {A : Option Addr} {c : Nat} {l : List I5} {a b : Int} (h : PB w W A c l a b) : W.cell? ⟨w.heap.size, 0, none⟩ = some (.slice A l.length c) ∧ W.cell? ⟨w.heap.size, 1, none⟩ = some (.int .i64 a) ∧ W.cell? ⟨w.heap.size, 2, none⟩ = some (.int .i64 b) := ⟨h.c0, h.c1, h.c2⟩
set_option maxHeartbeats 8000000 in
set_option maxRecDepth 100000 in
theorem VerifyChecks_walk (A : Option Addr) (c : Nat) (l : List I5) (a b : Int) (i : Int) (w : World) (hC : Kd.C kIn w A l.length l) (hc : l.length ≤ c) (hG : l.length ≤ maxLen ∧ ∀ y ∈ l, wf5 y) (ha : wfI a) (hb : wfI b) (hS : l.length * 40 ≤ 140737488351232) :
    Calls Try.prog 5 #[.agg #[.slice A l.length c, .int .i64 a, .int .i64 b], .int .i64 i] w (fun e w' => e = .returned (.bool true) ∧ Below w.heap.size w w') := by
  have hal := (Below.refl _ w).alloc (Nat.le_refl _) (.cells #[.slice A l.length c, .int .i64 a, .int .i64 b] 24)
  have HP := Aside0.mk (heap_alloc_last w (.cells #[.slice A l.length c, .int .i64 a, .int .i64 b] 24))
  have HC := Aside0.mk (Kd.C_below hC hal)
  have HB := Aside0.mk hal
  have HS := Aside0.mk hS
  have HLC := Aside0.mk hc
  have hCw := hC
  clear hal hC hS ha hb hG
  go_enter Try.func5, Try.ntmps5
  go_upto_region 1 with fail
  go_cut [23] (fun s23 wc => s23 = .bool (decide ((l.length : Int) > 40 ∧ (l.length : Int) ≤ 4000)) ∧ Aside0 (wc = w.alloc (.cells #[.slice A l.length c, .int .i64 a, .int .i64 b] 24)))
  case first =>
    by_cases h1 : (l.length : Int) > 40
    · by_cases h2 : (l.length : Int) ≤ 4000
      · go_wp2_with fail
        go_meet
        case rel => exact ⟨by rw [decide_eq_true ⟨h1, h2⟩], ⟨rfl⟩⟩
      · go_wp2_with fail
        go_meet
        case rel => exact ⟨by rw [decide_eq_false (by omega)], ⟨rfl⟩⟩
    · go_wp2_with fail
      go_meet
      case rel => exact ⟨by rw [decide_eq_false (by omega)], ⟨rfl⟩⟩
  case rest =>
  obtain ⟨rfl, hw⟩ := hcut
  have hw := hw.out
  subst hw
  generalize w.alloc (.cells #[.slice A l.length c, .int .i64 a, .int .i64 b] 24) = w0 at HP HC HB ⊢
  by_cases h40 : (l.length : Int) > 40 ∧ (l.length : Int) ≤ 4000
  · rw [decide_eq_true h40]
    go_wp2_with fail
    refine (works_at _).mono ?_
    rintro e w1 ⟨rfl, hb1⟩
    go_wp2
    go_ret
    exact ⟨rfl, HB.out.trans (hb1.mono HB.out.size)⟩
  rw [decide_eq_false h40]
  have HL := Aside0.mk (show (l.length : Int) ≤ 40 ∨ (l.length : Int) > 4000 by omega)
  clear h40
  have p0 : w0.cell? ⟨w.heap.size, 0, none⟩ = some (.slice A l.length c) := (blk_cell HP.out 0).trans rfl
  have p1 : w0.cell? ⟨w.heap.size, 1, none⟩ = some (.int .i64 a) := (blk_cell HP.out 1).trans rfl
  have p2 : w0.cell? ⟨w.heap.size, 2, none⟩ = some (.int .i64 b) := (blk_cell HP.out 2).trans rfl
  have hlt0 := blk_lt HP.out
  have hne1 : w.heap.size ≠ w0.heap.size := by omega
  have hne2 : w.heap.size ≠ w0.heap.size + 1 := by omega
  have hb2 : Below w.heap.size w ((w0.alloc (.cells #[.slice A l.length c, .int .i64 a, .int .i64 b] 24)).alloc (.cells #[] 33)) := (HB.out.alloc HB.out.size _).alloc (by simp; have := HB.out.size; omega) _
  have hb02 : Below w0.heap.size w0 ((w0.alloc (.cells #[.slice A l.length c, .int .i64 a, .int .i64 b] 24)).alloc (.cells #[] 33)) := ((Below.refl _ _).alloc (Nat.le_refl _) _).alloc (by simp) _
  have h1 : ((w0.alloc (.cells #[.slice A l.length c, .int .i64 a, .int .i64 b] 24)).alloc (.cells #[] 33)).heap[w0.heap.size]? = some (.cells #[.slice A l.length c, .int .i64 a, .int .i64 b] 24 (0, 0)) := al_old (heap_alloc_last _ _)
  have h2 : ((w0.alloc (.cells #[.slice A l.length c, .int .i64 a, .int .i64 b] 24)).alloc (.cells #[] 33)).heap[w0.heap.size + 1]? = some (.cells #[] 33 (0, 0)) := heap_at (by simp)
  have HE := Aside0.mk (show Kd.R kIn 33 ((w0.alloc (.cells #[.slice A l.length c, .int .i64 a, .int .i64 b] 24)).alloc (.cells #[] 33)) w.heap.size (fun k => w0.heap.size < k) (.slice (some ⟨w0.heap.size + 1, 0, none⟩) 0 0) [] from (fixed_R kIn_fixed).2 ⟨fun k hk => by injection hk with hk; show w0.heap.size < k; simp at hk; omega, rfl, .inr ⟨w0.heap.size + 1, 0, _, rfl, by have := HB.out.size; omega, h2, Nat.le_refl _, by unfold maxLen; omega, rfl, rfl⟩⟩)
  have HB2 := Aside0.mk hb2
  have HB02 := Aside0.mk hb02
  have HO2 := Aside0.mk h1
  clear hb2 hb02 h1 h2
  go_wp2_with (at_builtin; go_loud (refine Kd.R_append_rows kIn (Rr := kIn.K ((w0.alloc (.cells #[.slice A l.length c, .int .i64 a, .int .i64 b] 24)).alloc (.cells #[] 33))) (w0 := w) w.heap.size rfl (.tmp 26) (.tmp 28) 22 33 (.agg #[.int .i64 0, .int .i64 0, .int .i64 0, .int .i64 0, .int .i64 0]) 40 rfl Try.underlying22 info_cInst rfl (by decide) (by omega) _ [] l A _ _ (fun k => w0.heap.size < k) (fun _ => False) rfl rfl HE.out ?aR (fun x cs h => by rw [kIn_K h]; exact kIn_fixed.make _ _ _ x) (fun _ h => h.elim) ?aF HB2.out HB2.out.size ?aL ?_; (case aR => exact Kd.C_below HC.out HB02.out); (case aF => exact fun k hk => by simp at hk; omega); (case aL => have := HS.out; simp only [List.length_nil, Nat.zero_add]; omega); intro v2 w2 ho hb hg hat; rw [List.nil_append] at ho; obtain ⟨A2, c2, e2⟩ := Kd.R_slice ho; subst e2; have HO := Aside0.mk ho; have HOB := Aside0.mk (blk_grown HO2.out hg (fun e => Nat.succ_ne_self _ (Option.some.inj e).symm)); have HPB := Aside0.mk (show PB w w2 A c l a b from ⟨blk_grown (blk_below HP.out HB02.out) hg (fun e => hne2 (Option.some.inj e)), hb⟩); have k0 := (blk_cell HOB.out 0).trans rfl; have kf := blk_frozen HOB.out 0; have k1 : w2.cell? ⟨w0.heap.size, 1, none⟩ = some (.int .i64 a) := (blk_cell HOB.out 1).trans rfl; have k2 : w2.cell? ⟨w0.heap.size, 2, none⟩ = some (.int .i64 b) := (blk_cell HOB.out 2).trans rfl; clear ho hb hg hat))
  have HOB3 := Aside0.mk (blk_put HOB.out 0 (.slice A2 l.length c2) rfl)
  have HPB3 := Aside0.mk (show PB w (w2.setCell ⟨w0.heap.size, 0, none⟩ (.slice A2 l.length c2)) A c l a b from ⟨blk_far HPB.out.box (p := ⟨w0.heap.size, 0, none⟩) hne1 _, below_set HPB.out.below (by omega)⟩)
  have HO3 := Aside0.mk (Kd.R_bound (Kd.R_far HO.out (p := ⟨w0.heap.size, 0, none⟩) (fun k hk => by show k ≠ w0.heap.size; omega) (.slice A2 l.length c2)))
  clear HOB HPB HO k0 kf k1 k2 p0 p1 p2 HE HB2 HB02 HO2
  generalize w2.setCell ⟨w0.heap.size, 0, none⟩ (.slice A2 l.length c2) = w3 at HOB3 HPB3 HO3 ⊢
  generalize w0.heap.size = g0 at HOB3 HO3 hlt0 ⊢
  clear hne1 hne2 HP HC HB
  have HCW := Aside0.mk hCw
  clear hCw
  refine (new_atB (Kd.R_reads' HO3.out).2.2 (Kd.R_reads' HO3.out).2.1).mono ?_
  rintro e w4 hpost
  have hcode : (lookC l a b).2 = 0 ∨ (lookC l a b).2 = 130 ∨ (lookC l a b).2 = 150 ∨ (lookC l a b).2 = 151 ∨ (lookC l a b).2 = 152 := by
    unfold lookC
    repeat' split
    all_goals simp
  rcases hpost with ⟨hne, rfl, hb4⟩ | ⟨he0, g, rfl, hg, hck, hb4⟩
  · have HOB4 := Aside0.mk (blk_below HOB3.out hb4)
    have HPB4 := Aside0.mk (HPB3.out.step hb4)
    have HO4 := Aside0.mk (Kd.R_below HO3.out hb4)
    clear hb4 HOB3 HPB3 HO3
    have HRC := Aside0.mk (fun (W : World) (h : PB w W A c l a b) => rcheck_at (w := W) (a := a) (b := b) (h.rows HCW.out) HLC.out)
    have HVC := Aside0.mk (fun (W : World) (v : Value) (h : Kd.R kIn 33 W w.heap.size (fun _ => True) (.slice A2 l.length c2) l) => vcheck_at (w := W) (a := a) (b := b) (Kd.R_reads' h).2.2 (Kd.R_reads' h).2.1)
    generalize (lookC l a b).2 = code at hne hcode HRC HVC ⊢
    have hc1 : (code != 0) = true := by simpa using hne
    have hc2 : (code == 0) = false := by simpa using hne
    have p0 := HPB4.out.c0
    have p1 := HPB4.out.c1
    have p2 := HPB4.out.c2
    go_wp2_with fail
    refine (HRC.out _ HPB4.out).mono ?_
    rintro e w5 ⟨rfl, hb5⟩
    have HOB5 := Aside0.mk (blk_below HOB4.out hb5)
    have HPB5 := Aside0.mk (HPB4.out.step hb5)
    have HO5 := Aside0.mk (Kd.R_below HO4.out hb5)
    clear hb5 HOB4 HPB4 HO4 p0 p1 p2
    have o0 : w5.cell? ⟨g0, 0, none⟩ = some (.slice A2 l.length c2) := (blk_cell HOB5.out 0).trans rfl
    have o1 : w5.cell? ⟨g0, 1, none⟩ = some (.int .i64 a) := (blk_cell HOB5.out 1).trans rfl
    have o2 : w5.cell? ⟨g0, 2, none⟩ = some (.int .i64 b) := (blk_cell HOB5.out 2).trans rfl
    go_wp2_with fail
    refine (HVC.out _ (.slice none 0 0) (Kd.R_mono HO5.out (fun _ _ => trivial))).mono ?_
    rintro e w6 ⟨rfl, hb6⟩
    have HOB6 := Aside0.mk (blk_below HOB5.out hb6)
    have HPB6 := Aside0.mk (HPB5.out.step hb6)
    have HO6 := Aside0.mk (Kd.R_below HO5.out hb6)
    clear hb6 HOB5 HPB5 HO5 o0 o1 o2
    have o0 : w6.cell? ⟨g0, 0, none⟩ = some (.slice A2 l.length c2) := (blk_cell HOB6.out 0).trans rfl
    have p0 := HPB6.out.c0
    go_wp2_with fail
    refine (same5_at (l := l) (by have := HS.out; omega) (Kd.R_reads' HO6.out).2.2 (Kd.R_reads' HO6.out).2.1 (HPB6.out.rows HCW.out) HLC.out).mono ?_
    rintro e w7 ⟨rfl, hb7⟩
    have HPB7 := Aside0.mk (HPB6.out.step hb7)
    clear hb7 HPB6
    go_wp2_with fail
    refine (works_at _).mono ?_
    rintro e w8 ⟨rfl, hb8⟩
    go_wp2
    go_ret
    exact ⟨rfl, HPB7.out.below.trans (hb8.mono HPB7.out.below.size)⟩
  have HPB4 := Aside0.mk (HPB3.out.step hb4)
  have HOB4 := Aside0.mk (blk_below HOB3.out hb4)
  have HO4 := Aside0.mk (Kd.R_below HO3.out hb4)
  have HK4 := Aside0.mk hck
  have HG := Aside0.mk (show w.heap.size < g by have := HPB3.out.below.size; have := blk_lt HPB3.out.box; omega)
  obtain ⟨q1, q2, q3, o, q4, q5⟩ := look_len he0
  rw [q5] at HK4
  have HRC := Aside0.mk (fun (W : World) (h : PB w W A c l a b) => rcheck_at (w := W) (a := a) (b := b) (h.rows HCW.out) HLC.out)
  have HVC := Aside0.mk (fun (W : World) (h : Kd.R kIn 33 W w.heap.size (fun _ => True) (.slice A2 l.length c2) l) => vcheck_at (w := W) (a := a) (b := b) (Kd.R_reads' h).2.2 (Kd.R_reads' h).2.1)
  rw [he0] at HRC HVC
  have HOLT := Aside0.mk (show ∀ k, (Value.slice A2 l.length c2).ownBlock = some k → w.heap.size < k ∧ g0 < k ∧ k < w3.heap.size from fun k hk => by have := HO3.out.1 k hk; omega)
  have hlen := (checkC_ok q1).2.1
  have hl1 := (checkC_ok q1).1
  have HN := Aside0.mk (show l.length ≤ 4000 from hlen)
  have hro := ref_order (target_ok q1 q2)
  rw [q4] at hro
  have HRO := Aside0.mk hro
  have hstart : 0 ≤ a ∧ a < (l.length : Int) := by
    refine ⟨(checkC_ok q1).2.2.1.1, ?_⟩
    unfold targetsB at q2
    simp only [Bool.and_eq_true, decide_eq_true_eq] at q2
    exact q2.1
  obtain ⟨rr, hr1, hr2⟩ := reached_ev (led_ok q1 q2) hlen hstart b o
  obtain ⟨rs, hs1, hs2⟩ := ref_reached_ev (led_ok q1 q2) hlen hstart b
  obtain rfl := rises_one hs2 hr2
  have HR1 := Aside0.mk hr1.rounds
  have HR2 := Aside0.mk hs1
  have HRL := Aside0.mk (show rs.length ≤ 4000 from Nat.le_trans (nodup_le (hr2.1.imp (fun h => by omega)) hr2.2.2) hlen)
  have HLO := Aside0.mk (show o.length ≤ 4000 by have := hro.2; omega)
  clear hb4 HOB3 HPB3 HO3 hck he0 q1 q2 q3 q4 q5 hro hr1 hr2 hs1 hs2 hcode hstart hl1
  have p0 := HPB4.out.c0
  have p1 := HPB4.out.c1
  have p2 := HPB4.out.c2
  go_wp2_with fail
  refine (HRC.out _ HPB4.out).mono ?_
  rintro e w5 ⟨rfl, hb5⟩
  have HOB5 := Aside0.mk (blk_below HOB4.out hb5)
  have HPB5 := Aside0.mk (HPB4.out.step hb5)
  have HO5 := Aside0.mk (Kd.R_below HO4.out hb5)
  have HK5 := Aside0.mk (HK4.out.step hb5)
  clear hb5 HOB4 HPB4 HO4 HK4 p0 p1 p2 HRC
  have o0 : w5.cell? ⟨g0, 0, none⟩ = some (.slice A2 l.length c2) := (blk_cell HOB5.out 0).trans rfl
  have o1 : w5.cell? ⟨g0, 1, none⟩ = some (.int .i64 a) := (blk_cell HOB5.out 1).trans rfl
  have o2 : w5.cell? ⟨g0, 2, none⟩ = some (.int .i64 b) := (blk_cell HOB5.out 2).trans rfl
  go_wp2_with fail
  refine (HVC.out _ (Kd.R_mono HO5.out (fun _ _ => trivial))).mono ?_
  rintro e w6 ⟨rfl, hb6⟩
  have HOB6 := Aside0.mk (blk_below HOB5.out hb6)
  have HPB6 := Aside0.mk (HPB5.out.step hb6)
  have HO6 := Aside0.mk (Kd.R_below HO5.out hb6)
  have HK6 := Aside0.mk (HK5.out.step hb6)
  clear hb6 HOB5 HPB5 HO5 HK5 o0 o1 o2 HVC
  have o0 : w6.cell? ⟨g0, 0, none⟩ = some (.slice A2 l.length c2) := (blk_cell HOB6.out 0).trans rfl
  have p0 := HPB6.out.c0
  go_wp2_with fail
  refine (same5_at (l := l) (by have := HS.out; omega) (Kd.R_reads' HO6.out).2.2 (Kd.R_reads' HO6.out).2.1 (HPB6.out.rows HCW.out) HLC.out).mono ?_
  rintro e w7 ⟨rfl, hb7⟩
  have HOB7 := Aside0.mk (blk_below HOB6.out hb7)
  have HPB7 := Aside0.mk (HPB6.out.step hb7)
  have HO7 := Aside0.mk (Kd.R_below HO6.out hb7)
  have HK7 := Aside0.mk (HK6.out.step hb7)
  clear hb7 HOB6 HPB6 HO6 HK6 o0 p0
  have o0 : w7.cell? ⟨g0, 0, none⟩ = some (.slice A2 l.length c2) := (blk_cell HOB7.out 0).trans rfl
  go_wp2_with fail
  refine (spoil_insts l w7 w.heap.size _ _ HO7.out).mono ?_
  rintro e w8 ⟨rfl, hb8, hk8⟩
  have HPB8 := Aside0.mk (HPB7.out.spoil (fun k hk => (HOLT.out k hk).1) hb8 (Nat.le_refl _) hk8)
  have HK8 := Aside0.mk (HK7.out.spoil (fun k hk => (HOLT.out k hk).2.2) hb8 hk8).ck
  clear hb8 hk8 HOB7 HPB7 HO7 HK7 o0 HOLT
  go_wp2_with fail
  refine (prog_at HK8.out (by have := HN.out; omega)).mono ?_
  rintro e w9 ⟨v9, rfl, hR9, hb9⟩
  obtain ⟨A9, c9, e9⟩ := Kd.R_slice hR9
  subst e9
  have hlw8 := blk_lt HK8.out.choose_spec.choose_spec.choose_spec.choose_spec.choose_spec.1
  have hal := (Below.refl _ w9).alloc (Nat.le_refl _) (.cells #[.slice A9 l.length c9, .int .i64 a, .int .i64 b] 24)
  have HQ10 := Aside0.mk (heap_alloc_last w9 (.cells #[.slice A9 l.length c9, .int .i64 a, .int .i64 b] 24))
  have HPB10 := Aside0.mk ((HPB8.out.step hb9).step hal)
  have HK10 := Aside0.mk ((HK8.out.step hb9).step hal)
  have HR10 := Aside0.mk (Kd.R_mono (Kd.R_below (Kd.R_bound hR9) hal) (ok' := fun k => w8.heap.size ≤ k) (fun k hk => hk.2.1))
  have HLW := Aside0.mk (show g < w8.heap.size from hlw8)
  clear hb9 hal hR9 HPB8 HK8 hlw8
  go_wp2_with fail
  generalize w9.heap.size = gq at HQ10 ⊢
  generalize w9.alloc (.cells #[.slice A9 l.length c9, .int .i64 a, .int .i64 b] 24) = w10 at HQ10 HPB10 HK10 HR10 ⊢
  have hdw := (Below.refl w10.heap.size w10).drew
  have HQd := Aside0.mk (blk_below HQ10.out hdw)
  have HPBd := Aside0.mk (HPB10.out.step hdw)
  have HKd := Aside0.mk (HK10.out.step hdw)
  have HRd := Aside0.mk (Kd.R_below HR10.out hdw)
  clear hdw HQ10 HPB10 HK10 HR10
  have HSP := Aside0.mk (fun (W : World) (h : Kd.C kIn W A9 l.length l) (h' : Kd.C kIn W A l.length l) => sameP_at (a := a) (b := b) (w := W) (by have := HS.out; omega) h (Kd.R_reads' HRd.out).2.1 h' HLC.out)
  go_region_held3 (fun W => W.cell? ⟨w.heap.size, 0, none⟩ = some (.slice A l.length c) ∧ W.cell? ⟨w.heap.size, 1, none⟩ = some (.int .i64 a) ∧ W.cell? ⟨w.heap.size, 2, none⟩ = some (.int .i64 b) ∧ W.cell? ⟨gq, 0, none⟩ = some (.slice A9 l.length c9) ∧ W.cell? ⟨gq, 1, none⟩ = some (.int .i64 a) ∧ W.cell? ⟨gq, 2, none⟩ = some (.int .i64 b)) (first | exact keep6 HPBd.out HQd.out | exact keep6 HPBe.out HQe.out) (first | ((go_at_call 16; refine (HSP.out _ (Kd.R_reads' HRd.out).2.2 (HPBd.out.rows HCW.out)).mono ?_; rintro e w11 ⟨rfl, hb11⟩; have HQe := Aside0.mk (blk_below HQd.out hb11); have HPBe := Aside0.mk (HPBd.out.step hb11); have HKe := Aside0.mk (HKd.out.step hb11); have HRe := Aside0.mk (Kd.R_below HRd.out hb11); clear hb11 HQd HPBd HKd HRd)) | ((go_at_call 17; refine (len_at HKe.out).mono ?_; rintro e w12 ⟨rfl, rfl⟩)) | ((go_at_call 18; refine (start_at HKe.out).mono ?_; rintro e w13 ⟨rfl, rfl⟩)) | ((go_at_call 19; refine (slots_at HKe.out).mono ?_; rintro e w14 ⟨rfl, rfl⟩)))
  have k9 := (blk_cell HQe.out 0).trans rfl
  go_wp2_with fail
  refine (spoil_insts l w11 w8.heap.size _ _ HRe.out).mono ?_
  rintro e w12 ⟨rfl, hb12, hk12⟩
  have HW8 := Aside0.mk (show w.heap.size ≤ w8.heap.size by have := HG.out; have := HLW.out; omega)
  have hqlt : ∀ k, (Value.slice A9 l.length c9).ownBlock = some k → w8.heap.size ≤ k := fun k hk => HRe.out.1 k hk
  have HPB12 := Aside0.mk (HPBe.out.spoil (fun k hk => by have := hqlt k hk; have := HG.out; have := HLW.out; omega) hb12 HW8.out hk12)
  have HK12 := Aside0.mk (ck_late HKe.out (fun k hk => by have := hqlt k hk; have := HLW.out; omega) hb12 hk12)
  have HG12 := Aside0.mk (show g < w12.heap.size from blk_lt HK12.out.choose_spec.choose_spec.choose_spec.choose_spec.choose_spec.1)
  clear hb12 hk12 hqlt k9 HQe HPBe HKe HRe HSP
  go_wp2_with fail
  refine (order_at HK12.out (by have := HLO.out; omega)).mono ?_
  rintro e w13 ⟨v13, rfl, hR13, hb13⟩
  obtain ⟨A13, c13, e13⟩ := Kd.R_slice hR13
  subst e13
  have HPB13 := Aside0.mk (HPB12.out.step hb13)
  have HK13 := Aside0.mk (HK12.out.step hb13)
  have HR13 := Aside0.mk (Kd.R_bound hR13)
  have HG13 := Aside0.mk (show g < w13.heap.size from Nat.lt_of_lt_of_le HG12.out hb13.size)
  clear hb13 hR13 HPB12 HK12
  go_wp2_with fail
  refine (reached_at2 HK13.out HR1.out).mono ?_
  rintro e w14 ⟨v14, rfl, hR14, hk14, hkb14, hb14⟩
  obtain ⟨A14, c14, e14⟩ := Kd.R_slice hR14
  subst e14
  have HPB14 := Aside0.mk (HPB13.out.keep HG.out hkb14 (hb14 _ (Nat.le_of_lt HG.out) HPB13.out.below.size))
  have HK14 := Aside0.mk hk14
  have HR13' := Aside0.mk (Kd.R_keep HR13.out hkb14 (fun k hk => by have := hk.2.1; have := HG12.out; omega))
  have HR14 := Aside0.mk (Kd.R_bound hR14)
  clear hR14 hk14 hkb14 hb14 HPB13 HK13 HR13
  have p0 := HPB14.out.c0
  have p1 := HPB14.out.c1
  have p2 := HPB14.out.c2
  go_wp2_with fail
  refine (rorder_at (a := a) (b := b) (HPB14.out.rows HCW.out) HLC.out (by have := HN.out; omega)).mono ?_
  rw [HRO.out.1]
  rintro e w15 ⟨v15, rfl, hR15, hb15⟩
  obtain ⟨A15, c15, e15⟩ := Kd.R_slice hR15
  subst e15
  have HPB15 := Aside0.mk (HPB14.out.step hb15)
  have HK15 := Aside0.mk (HK14.out.step hb15)
  have HR13 := Aside0.mk (Kd.R_below HR13'.out hb15)
  have HR14' := Aside0.mk (Kd.R_below HR14.out hb15)
  have HR15 := Aside0.mk hR15
  clear hb15 hR15 HPB14 HK14 HR13' HR14 p0 p1 p2
  go_wp2_with fail
  refine (sameI_at (s := o) (by have := HLO.out; omega) (Kd.R_reads' HR13.out).2.2 (Kd.R_reads' HR13.out).2.1 (Kd.R_reads' HR15.out).2.2 (Kd.R_reads' HR15.out).2.1).mono ?_
  rintro e w16 ⟨rfl, hb16⟩
  have HPB16 := Aside0.mk (HPB15.out.step hb16)
  have HK16 := Aside0.mk (HK15.out.step hb16)
  have HR13' := Aside0.mk (Kd.R_below HR13.out hb16)
  have HR14 := Aside0.mk (Kd.R_below HR14'.out hb16)
  clear hb16 HPB15 HK15 HR13 HR14' HR15
  have p0 := HPB16.out.c0
  have p1 := HPB16.out.c1
  have p2 := HPB16.out.c2
  go_wp2_with fail
  refine (rreached_at (a := a) (b := b) (HPB16.out.rows HCW.out) HLC.out HR2.out).mono ?_
  rintro e w17 ⟨v17, rfl, hR17, hb17⟩
  obtain ⟨A17, c17, e17⟩ := Kd.R_slice hR17
  subst e17
  have HPB17 := Aside0.mk (HPB16.out.step hb17)
  have HK17 := Aside0.mk (HK16.out.step hb17)
  have HR13 := Aside0.mk (Kd.R_below HR13'.out hb17)
  have HR14' := Aside0.mk (Kd.R_below HR14.out hb17)
  have HR17 := Aside0.mk hR17
  clear hb17 hR17 HPB16 HK16 HR13' HR14 p0 p1 p2
  go_wp2_with fail
  refine (sameI_at (s := rs) (by have := HRL.out; omega) (Kd.R_reads' HR14'.out).2.2 (Kd.R_reads' HR14'.out).2.1 (Kd.R_reads' HR17.out).2.2 (Kd.R_reads' HR17.out).2.1).mono ?_
  rintro e w18 ⟨rfl, hb18⟩
  have HPB18 := Aside0.mk (HPB17.out.step hb18)
  have HK18 := Aside0.mk (HK17.out.step hb18)
  have HR13' := Aside0.mk (Kd.R_below HR13.out hb18)
  have HR14 := Aside0.mk (Kd.R_below HR14'.out hb18)
  clear hb18 HPB17 HK17 HR13 HR14' HR17
  go_wp2_with fail
  refine (spoil_ints o w18 w12.heap.size _ _ HR13'.out).mono ?_
  rintro e w19 ⟨rfl, hb19, hk19⟩
  have HW12 := Aside0.mk (show w.heap.size ≤ w12.heap.size by have := HG.out; have := HG12.out; omega)
  have HPB19 := Aside0.mk (HPB18.out.spoil (fun k hk => by have := (HR13'.out.1 k hk).2.1; have := HG.out; have := HG12.out; omega) hb19 HW12.out hk19)
  have HK19 := Aside0.mk (ck_late HK18.out (fun k hk => by have := (HR13'.out.1 k hk).2.1; have := HG12.out; omega) hb19 hk19)
  have HR14' := Aside0.mk (Kd.R_step HR14.out (fun k hk _ => hk19 k (fun e => by have := (HR13'.out.1 k e.symm).2.2.1; have := hk.2.1; omega)))
  clear hb19 hk19 HPB18 HK18 HR13' HR14
  go_wp2_with fail
  refine (spoil_ints rs w19 w13.heap.size _ _ HR14'.out).mono ?_
  rintro e w20 ⟨rfl, hb20, hk20⟩
  have HW13 := Aside0.mk (show w.heap.size ≤ w13.heap.size by have := HG.out; have := HG13.out; omega)
  have HPB20 := Aside0.mk (HPB19.out.spoil (fun k hk => by have := (HR14'.out.1 k hk).2.1; have := HG.out; have := HG13.out; omega) hb20 HW13.out hk20)
  have HK20 := Aside0.mk (ck_late HK19.out (fun k hk => by have := (HR14'.out.1 k hk).2.1; have := HG13.out; omega) hb20 hk20)
  clear hb20 hk20 HPB19 HK19 HR14'
  have HI := Aside0.mk (show ∃ x : I5, Calls Try.prog 25 #[.pointer (some ⟨g, 0, none⟩), .int .i64 i] w20 (fun e w' => e = .returned (aggIn x) ∧ Below w20.heap.size w20 w') ∧ ((∃ j : Nat, ∃ h : j < l.length, i = j ∧ x = l[j]) ∨ (i < 0 ∨ (l.length : Int) ≤ i) ∧ x = (0, 0, 0, 0, 0)) by
    by_cases h : 0 ≤ i ∧ i < (l.length : Int)
    · obtain ⟨j, rfl⟩ : ∃ j : Nat, i = j := ⟨i.toNat, by omega⟩
      have hj : j < l.length := by omega
      exact ⟨_, inst_in HK20.out j hj (by have := HN.out; omega), .inl ⟨j, hj, rfl, rfl⟩⟩
    · exact ⟨_, inst_out HK20.out i (by omega), .inr ⟨by omega, rfl⟩⟩)
  obtain ⟨x, hx1, hx2⟩ := HI.out
  have HX1 := Aside0.mk hx1
  have HX2 := Aside0.mk hx2
  clear hx1 hx2 HI
  go_wp2_with fail
  refine HX1.out.mono ?_
  rintro e w21 ⟨rfl, hb21⟩
  have hal := (Below.refl _ w21).alloc (Nat.le_refl _) (bxIn x)
  have HXB := Aside0.mk (heap_alloc_last w21 (bxIn x))
  have HPB22 := Aside0.mk ((HPB20.out.step hb21).step hal)
  have HK22 := Aside0.mk ((HK20.out.step hb21).step hal)
  clear hb21 hal HPB20 HK20 HX1 HR1 HR2 HRL HLW HW8 HG12 HG13 HW12 HW13
  go_upto_region 20 with fail
  generalize w21.heap.size = gx at HXB ⊢
  generalize w21.alloc (bxIn x) = w22 at HXB HPB22 HK22 ⊢
  have HPB23 := Aside0.mk HPB22.out
  have p0 := HPB22.out.c0
  go_cut [130] (fun s130 wc => s130 = .bool (decide (0 ≤ i ∧ i < (l.length : Int))) ∧ Aside0 (wc = w22))
  case first =>
    by_cases h1 : i ≥ 0
    · by_cases h2 : i < (l.length : Int)
      · go_wp2_with fail
        go_meet
        case rel => exact ⟨by rw [decide_eq_true (by omega)], ⟨rfl⟩⟩
      · go_wp2_with fail
        go_meet
        case rel => exact ⟨by rw [decide_eq_false (by omega)], ⟨rfl⟩⟩
    · go_wp2_with fail
      go_meet
      case rel => exact ⟨by rw [decide_eq_false (by omega)], ⟨rfl⟩⟩
  case rest =>
  obtain ⟨rfl, hw⟩ := hcut
  have hw := hw.out
  subst hw
  go_upto_if 130 with fail
  go_cut [10] (fun s10 wc => s10 = .bool true ∧ Aside0 (PB w wc A c l a b) ∧ Aside0 (Ck wc g l a b o))
  case first =>
    have z0 := (blk_cell HXB.out 0).trans rfl
    have z1 := (blk_cell HXB.out 1).trans rfl
    have z2 := (blk_cell HXB.out 2).trans rfl
    have z3 := (blk_cell HXB.out 3).trans rfl
    have z4 := (blk_cell HXB.out 4).trans rfl
    have hdw := (Below.refl wc.heap.size wc).drew
    rcases HX2.out with ⟨j, hj, rfl, hx⟩ | ⟨hi, hx⟩
    · obtain ⟨b', off, rfl, hbw, x0, x1, x2, x3, x4⟩ := inst_at (HPB22.out.rows HCW.out) hj
      rw [← hx] at x0 x1 x2 x3 x4
      rw [decide_eq_true (show 0 ≤ (j : Int) ∧ (j : Int) < (l.length : Int) by omega)]
      clear hx
      go_wp2_with fail
      go_quiet (fail)
      go_wp2_with fail
      go_meet
      case rel => exact ⟨by simp, ⟨HPB22.out.step (pw_below_drewN (Below.refl _ _) _)⟩, ⟨HK22.out.step (pw_below_drewN (Below.refl _ _) _)⟩⟩
    · rw [decide_eq_false (by omega)]
      subst hx
      go_wp2_with fail
      go_meet
      case rel => exact ⟨by simp, HPB22, HK22⟩
  case rest =>
  clear HPB22 HK22 HXB p0
  obtain ⟨rfl, HPB24, HK24⟩ := hcut
  have hdw := (Below.refl wc.heap.size wc).drew
  have HPBd := Aside0.mk (HPB24.out.step hdw)
  have HKd := Aside0.mk (HK24.out.step hdw)
  clear hdw HPB24 HK24
  have HSP := Aside0.mk (fun (W : World) (v : Value) (ok : Nat → Prop) (base : Nat) (A9 : Option Addr) (c9 : Nat) (h : Kd.R kIn 33 W base ok (.slice A9 l.length c9) l) (h' : Kd.C kIn W A l.length l) => sameP_at (a := a) (b := b) (w := W) (by have := HS.out; omega) (Kd.R_reads' h).2.2 (Kd.R_reads' h).2.1 h' HLC.out)
  have HRO2 := Aside0.mk (fun (W : World) (h : Kd.C kIn W A l.length l) => HRO.out.1 ▸ rorder_at (a := a) (b := b) (w := W) h HLC.out (by have := HN.out; omega))
  have HL1 := Aside0.mk (show l.length ≤ 100000 by have := HN.out; omega)
  have HL2 := Aside0.mk (show o.length ≤ 100000 by have := HLO.out; omega)
  have HL3 := Aside0.mk (show o.length ≤ 2000000 by have := HLO.out; omega)
  go_wp2_with fail
  go_region_held3 (fun W => W.cell? ⟨w.heap.size, 0, none⟩ = some (.slice A l.length c) ∧ W.cell? ⟨w.heap.size, 1, none⟩ = some (.int .i64 a) ∧ W.cell? ⟨w.heap.size, 2, none⟩ = some (.int .i64 b)) (first | exact keep3 HPBd.out | exact keep3 HPBe.out | exact keep3 HPBf.out | exact keep3 HPBg.out | exact keep3 HPBh.out | exact keep3 HPBi.out | exact keep3 HPBj.out) (first | ((go_at_call 15; refine (prog_at HKd.out HL1.out).mono ?_; rintro e w24 ⟨v24, rfl, hR24, hb24⟩; obtain ⟨A24, c24, e24⟩ := Kd.R_slice hR24; subst e24; have HPBe := Aside0.mk (HPBd.out.step hb24); have HKe := Aside0.mk (HKd.out.step hb24); have HRe := Aside0.mk hR24; clear hb24 hR24 HPBd HKd)) | ((go_at_call 16; refine (HSP.out _ (.bool true) _ _ _ _ HRe.out (HPBe.out.rows HCW.out)).mono ?_; rintro e w25 ⟨rfl, hb25⟩; have HPBf := Aside0.mk (HPBe.out.step hb25); have HKf := Aside0.mk (HKe.out.step hb25); clear hb25 HPBe HKe HRe)) | ((go_at_call 9; refine (order_at HKf.out HL2.out).mono ?_; rintro e w26 ⟨v26, rfl, hR26, hb26⟩; obtain ⟨A26, c26, e26⟩ := Kd.R_slice hR26; subst e26; have HPBg := Aside0.mk (HPBf.out.step hb26); have HRg := Aside0.mk hR26; clear hb26 hR26 HPBf HKf)) | ((go_at_call 22; refine (HRO2.out _ (HPBg.out.rows HCW.out)).mono ?_; rintro e w27 ⟨v27, rfl, hR27, hb27⟩; obtain ⟨A27, c27, e27⟩ := Kd.R_slice hR27; subst e27; have HPBh := Aside0.mk (HPBg.out.step hb27); have HRh := Aside0.mk (Kd.R_below HRg.out hb27); have HRh2 := Aside0.mk hR27; clear hb27 hR27 HPBg HRg)) | ((go_at_call 21; refine (sameI_at (s := o) HL3.out (Kd.R_reads' HRh.out).2.2 (Kd.R_reads' HRh.out).2.1 (Kd.R_reads' HRh2.out).2.2 (Kd.R_reads' HRh2.out).2.1).mono ?_; rintro e w28 ⟨rfl, hb28⟩; have HPBi := Aside0.mk (HPBh.out.step hb28); clear hb28 HPBh HRh HRh2)) | ((go_at_call 7; refine (works_at _).mono ?_; rintro e w29 ⟨rfl, hb29⟩; have HPBj := Aside0.mk (HPBi.out.step hb29); clear hb29 HPBi)))
  go_wp2
  go_ret
  exact ⟨rfl, HPBj.out.below⟩
end Go.Proofs.Ytepjoiclfoopeaa.Pure
