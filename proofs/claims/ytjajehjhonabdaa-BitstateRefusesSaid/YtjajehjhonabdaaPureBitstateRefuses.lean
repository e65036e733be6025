/- BitstateRefuses: any program, any number; no condition. -/
import Derived.Test.YtjajehjhonabdaaHBitstateRefusesx3
import Derived.Test.YtjajehjhonabdaaXBitRunAt
import Derived.Test.YtjajehjhonabdaaXOpenA
import Derived.Test.YtjajehjhonabdaaXBitRepeat
import Derived.Laws.Closers25b
namespace Go.Proofs.Ytjajehjhonabdaa.Pure
open Go.RowKit Go.Proofs.Ytjajehjhonabdaa.HBitstateRefuses Go.Proofs.YtjajehjhonabdaaW.PrintWords Go.Proofs.YtjajehjhonabdaaW.PrintLast Go.Proofs.YtjajehjhonabdaaW.PrintMore
open Go.Proofs.YtjajehjhonabdaaX
set_option linter.unusedVariables false
set_option linter.unusedSimpArgs false
theorem back_in (l : List S52) : (l.map inOf).map (fun x : I5 => (⟨x.1, x.2.1, x.2.2.1, x.2.2.2.1, x.2.2.2.2⟩ : S52)) = l := by
  rw [List.map_map]
  exact List.map_id'' (fun x => rfl) l
def toIn (x : I5) : S52 := ⟨x.1, x.2.1, x.2.2.1, x.2.2.2.1, x.2.2.2.2⟩
theorem forth_in (l : List I5) : (l.map toIn).map inOf = l := by
  rw [List.map_map]
  exact List.map_id'' (fun x => rfl) l
theorem toCI {A : Option Addr} {l : List I5} {w : World} (h : Kd.C kIn w A l.length l) : Kd.C k52 w A (l.map toIn).length (l.map toIn) := by
  rw [List.length_map]
  exact (C_iso (d := kIn) (f := inOf)).2 (by rw [forth_in]; exact h)
theorem check_f (k : Nat) (l : List S52) (a b : Int) : prog_Check.f (k + 1) l a b = some (checkC (l.map inOf) a b) := by
  unfold prog_Check.f checkC
  rw [List.length_map]
  have hj : ∀ q : Bool, q = true → prog_Check.j0 (k + 1) q l a b = some 130 := by
    intro q hq
    simp only [prog_Check.j0]
    rw [if_pos hq]
  by_cases h1 : (l.length : Int) < 1
  · rw [if_pos h1, hj _ rfl, if_neg (by omega)]
  · by_cases h2 : (l.length : Int) > 4000
    · rw [if_neg h1, if_pos h2, hj _ rfl, if_neg (by omega)]
    · rw [if_neg h1, if_neg h2, place_f]
      simp only [Option.bind_some]
      by_cases h3 : 0 ≤ a ∧ a < 4000
      · rw [decide_eq_true h3, if_pos rfl]
        by_cases h4 : b < 0
        · rw [if_pos h4, hj _ rfl, if_neg (by omega)]
        · rw [if_neg h4]
          by_cases h5 : b > 64
          · rw [hj _ (decide_eq_true h5), if_neg (by omega)]
          · rw [decide_eq_false h5]
            simp only [prog_Check.j0]
            rw [if_neg (by decide), show ext_badInsts.f l () = some ((l.map ofIn).any fun x => !fitsB x) by unfold ext_badInsts.f; rw [if_pos (by omega)]]
            simp only [Option.bind_some]
            have e : (l.map ofIn).any (fun x => !fitsB x) = !((l.map inOf).all fitsB) := by
              rw [List.all_eq_not_any_not]
              simp
            rw [e]
            cases h6 : (l.map inOf).all fitsB
            · rw [Bool.not_false, if_pos rfl, if_neg (by simp)]
            · rw [Bool.not_true, if_neg (by decide), if_pos ⟨by omega, by omega, h3, by omega, by omega, rfl⟩]
      · rw [decide_eq_false h3, if_neg (by decide), hj _ rfl, if_neg (fun g => h3 g.2.2.1)]
theorem checkC_ok {l : List I5} {a b : Int} (h : checkC l a b = 0) : 1 ≤ l.length ∧ l.length ≤ 4000 ∧ (0 ≤ a ∧ a < 4000) ∧ 0 ≤ b ∧ b ≤ 64 ∧ l.all fitsB = true := by
  unfold checkC at h
  split at h
  · assumption
  · omega
theorem fits_xy {x : I5} (h : fitsB x = true) : (0 ≤ x.2.2.2.1 ∧ x.2.2.2.1 < 4000) ∧ (0 ≤ x.2.2.2.2 ∧ x.2.2.2.2 < 4000) := by
  unfold fitsB at h
  simp only [Bool.and_eq_true, decide_eq_true_eq] at h
  exact ⟨h.2.2.1, h.2.2.2.1⟩
theorem led_ok {l : List I5} {a b : Int} (h : checkC l a b = 0) (ht : targetsB l a = true) : ledB l = true := by
  rw [ledB_iff]
  intro x hx t htx
  have hf := List.all_eq_true.1 (checkC_ok h).2.2.2.2.2 x hx
  have hxy := fits_xy hf
  unfold targetsB at ht
  simp only [Bool.and_eq_true, Bool.not_eq_true'] at ht
  have hp : pastB l.length x = false := by
    rw [Bool.eq_false_iff]
    intro g
    rw [List.any_eq_true.2 ⟨x, hx, g⟩] at ht
    exact absurd ht.2 (by decide)
  have hlt : t < l.length := by
    unfold pastB at hp
    rw [Bool.eq_false_iff] at hp
    by_cases g : t < l.length
    · exact g
    · exact absurd (List.any_eq_true.2 ⟨t, htx, decide_eq_true (by omega)⟩) hp
  refine ⟨?_, hlt⟩
  unfold leadsV at htx
  repeat' split at htx
  all_goals simp at htx
  all_goals omega
theorem look_f (k : Nat) (l : List S52) (a b : Int) : verify_look.f (k + 1) l a b = some (lookC (l.map inOf) a b) := by
  unfold verify_look.f lookC
  rw [check_f]
  simp only [Option.bind_some]
  by_cases h0 : checkC (l.map inOf) a b = 0
  · have hk := checkC_ok h0
    rw [List.length_map] at hk
    rw [if_pos h0, if_neg (fun g => g h0), show verify_targets.f l a b = some (targetsB (l.map inOf) a) by unfold verify_targets.f; rw [if_pos (by omega)]]
    simp only [Option.bind_some]
    cases ht : targetsB (l.map inOf) a with
    | false => rw [if_neg (by decide), if_pos rfl]
    | true =>
      rw [if_pos rfl, if_neg (by decide), show verify_slots.f l a b = some (slotsB (l.map inOf) b) by unfold verify_slots.f; rw [if_pos (by omega)]]
      simp only [Option.bind_some]
      cases hs : slotsB (l.map inOf) b with
      | false => rw [if_neg (by decide), if_pos rfl]
      | true =>
        rw [if_pos rfl, if_neg (by decide), show verify_ordered.f l a b = some ((ordL (l.map inOf)).getD [], (ordL (l.map inOf)).isSome) by unfold verify_ordered.f; rw [if_pos ⟨by omega, by omega, led_ok h0 ht⟩]]
        simp only [Option.bind_some]
        cases ordL (l.map inOf) with
        | none => rw [if_neg (by simp)]
        | some o => rw [if_pos (by simp)]; rfl
  · rw [if_neg h0, if_pos h0]
    have : checkC (l.map inOf) a b = 130 := by
      unfold checkC at h0 ⊢
      split
      · rename_i g; rw [if_pos g] at h0; exact absurd rfl h0
      · rfl
    rw [this]
theorem lookAt : LookAt := by
  intro A c l a b w hC hc
  have := verify_look.calls 1 A c (l.map toIn) a b _ _ w (toCI hC) (by rw [List.length_map]; exact hc) (look_f 0 (l.map toIn) a b)
  rw [List.length_map, forth_in] at this
  exact this
theorem look_len {l : List I5} {a b : Int} (h : (lookC l a b).2 = 0) : checkC l a b = 0 ∧ targetsB l a = true ∧ slotsB l b = true ∧ ∃ o, ordL l = some o ∧ (lookC l a b).1 = o := by
  unfold lookC at h ⊢
  by_cases h0 : checkC l a b ≠ 0
  · rw [if_pos h0] at h; exact absurd h (by decide)
  · rw [if_neg h0] at h ⊢
    cases ht : targetsB l a with
    | false => rw [ht, if_pos rfl] at h; exact absurd h (by decide)
    | true =>
      rw [ht, if_neg (by decide)] at h
      rw [if_neg (by decide)]
      cases hs : slotsB l b with
      | false => rw [hs, if_pos rfl] at h; exact absurd h (by decide)
      | true =>
        rw [hs, if_neg (by decide)] at h
        rw [if_neg (by decide)]
        cases ho : ordL l with
        | none => rw [ho] at h; exact absurd h (by decide)
        | some o => exact ⟨by omega, rfl, rfl, o, rfl, rfl⟩
theorem new_at {A : Option Addr} {c : Nat} {l : List I5} {a b : Int} {w : World} (hC : Kd.C kIn w A l.length l) (hc : l.length ≤ c) : Calls Try.prog 6 #[.agg #[.slice A l.length c, .int .i64 a, .int .i64 b]] w (NewPost w l a b) :=
  new_any lookAt A c l a b w hC hc (fun h => (checkC_ok (look_len h).1).2.1)
theorem rows_C {W : World} {B n : Nat} {l : List I5} (h : W.heap[B]? = some (.cells (l.flatMap encInst).toArray 52 (0, 0))) (hn : l.length = n) (hm : n ≤ 4000) : Kd.C kIn W (some ⟨B, 0, none⟩) n l := by
  subst hn
  have hlen := flat_len (enc := encInst) 5 (fun _ => rfl) l
  have : Kd.R kIn 52 W 0 (fun _ => True) (.slice (some ⟨B, 0, none⟩) l.length l.length) l := (fixed_R kIn_fixed).2 ⟨fun _ _ => trivial, hlen, .inr ⟨B, l.length, _, rfl, Nat.zero_le _, h, Nat.le_refl _, by unfold maxLen; omega, by rw [List.size_toArray]; exact hlen, by rw [List.toList_toArray, ← show (l.flatMap encInst).length = l.length * kIn.sz from hlen]; exact List.take_length⟩⟩
  exact (Kd.R_reads' this).2.2
theorem sameI_l0 (s : List Int) (hn : s.length ≤ 2000000) (d : Nat) : ∀ i : Nat, i ≤ s.length → s.length - i = d → Ev (fun k => burinbook_SameInts.l0 k s s true i) true := by
  induction d with
  | zero =>
    intro i hi hd
    refine Ev.step (fun k => ?_) (Ev.now _)
    simp only [burinbook_SameInts.l0]
    rw [if_pos trivial, if_neg (by omega)]
  | succ d ih =>
    intro i hi hd
    refine Ev.step (fun k => ?_) (ih (i + 1) (by omega) (by omega))
    simp only [burinbook_SameInts.l0]
    rw [if_pos trivial, if_pos (by omega), if_pos (by omega), if_pos (by omega), wrap_v (x := (i : Int) + 1) (y := ((i + 1 : Nat) : Int)) (by omega) (by omega) (by omega)]
    simp
theorem sameI_ev (s : List Int) (hn : s.length ≤ 2000000) : Ev (fun k => burinbook_SameInts.f k s s) true := by
  have := sameI_l0 s hn _ 0 (Nat.zero_le _) rfl
  unfold burinbook_SameInts.f
  simpa using this
theorem sameI_at {A A' : Option Addr} {c c' : Nat} {s : List Int} {w : World} (hn : s.length ≤ 2000000) (h : Kd.C (Kd.int .i64) w A s.length s) (hc : s.length ≤ c) (h' : Kd.C (Kd.int .i64) w A' s.length s) (hc' : s.length ≤ c') :
    Calls Try.prog 18 #[.slice A s.length c, .slice A' s.length c'] w (fun e w' => e = .returned (.bool true) ∧ Below w.heap.size w w') := by
  obtain ⟨k, hk⟩ := Ev.rounds (sameI_ev s hn)
  exact (burinbook_SameInts.calls k A c s A' c' s true w h hc h' hc' hk).mono fun e w' ⟨he, hd⟩ => ⟨he, hd.below⟩
theorem al_old {w : World} {o x : Obj} {k : Nat} (h : w.heap[k]? = some x) : (w.alloc o).heap[k]? = some x := (((Below.refl _ w).alloc (Nat.le_refl _) o).block _ (blk_lt h)).trans h
theorem ints_C {W : World} {B n : Nat} {l : List Int} (h : W.heap[B]? = some (.cells (l.flatMap encInt).toArray 3 (0, 0))) (hn : l.length = n) (hm : n ≤ 4000) : Kd.C (Kd.int .i64) W (some ⟨B, 0, none⟩) n l := by
  subst hn
  have hlen := flat_len (enc := encInt) 1 (fun _ => rfl) l
  have : Kd.R (Kd.int .i64) 3 W 0 (fun _ => True) (.slice (some ⟨B, 0, none⟩) l.length l.length) l := (fixed_R kI_fixed).2 ⟨fun _ _ => trivial, hlen, .inr ⟨B, l.length, _, rfl, Nat.zero_le _, h, Nat.le_refl _, by unfold maxLen; omega, by rw [List.size_toArray]; exact hlen, by rw [List.toList_toArray, ← show (l.flatMap encInt).length = l.length * kI.sz from hlen]; exact List.take_length⟩⟩
  exact (Kd.R_reads' this).2.2
def exL : List I5 := [(5, 0, 0, 0, 0), (6, 0, 0, 0, 0), (1, 97, 97, 0, 0)]
theorem ex_fine : (lookC exL 2 2).2 = 0 := by decide +kernel
theorem ex_finds : searchV exL ⟨#[98, 97]⟩ 2 2 0 false false = some [1, 2] := by decide +kernel
theorem ex_pairs : pairsV exL.length (⟨#[98, 97]⟩ : ByteArray).size = 9 := by decide +kernel
set_option maxHeartbeats 4000000 in
set_option maxRecDepth 100000 in
theorem works_at (w : World) : Calls Try.prog 7 #[] w (fun e w' => e = .returned (.bool true) ∧ Below w.heap.size w w') := by
  have b1 : ∀ W, (Instr.build 52 #[(0, .int .i64 5)]).run Try.prog W = .ok (.agg #[.int .i64 5, .int .i64 0, .int .i64 0, .int .i64 0, .int .i64 0]) W := fun W => run_build W 52 _ _ (by kernel_rfl)
  have b2 : ∀ W, (Instr.build 52 #[(0, .int .i64 6)]).run Try.prog W = .ok (.agg #[.int .i64 6, .int .i64 0, .int .i64 0, .int .i64 0, .int .i64 0]) W := fun W => run_build W 52 _ _ (by kernel_rfl)
  have b3 : ∀ W, (Instr.build 52 #[(0, .int .i64 1), (1, .int .i64 97), (2, .int .i64 97)]).run Try.prog W = .ok (.agg #[.int .i64 1, .int .i64 97, .int .i64 97, .int .i64 0, .int .i64 0]) W := fun W => run_build W 52 _ _ (by kernel_rfl)
  have b4 : ∀ W v, (Instr.build 24 #[(1, .int .i64 2), (2, .int .i64 2), (0, .slice (some v) 3 3)]).run Try.prog W = .ok (.agg #[.slice (some v) 3 3, .int .i64 2, .int .i64 2]) W := fun W v => run_build W 24 _ _ (by kernel_rfl)
  have b5 : ∀ W, (Instr.build 26 #[(0, .string ⟨#[98, 97]⟩)]).run Try.prog W = .ok (.agg #[.string ⟨#[98, 97]⟩, .int .i64 0, .bool false, .bool false]) W := fun W => run_build W 26 _ _ (by kernel_rfl)
  go_enter Try.func7, Try.ntmps7
  go_wp2_with fail
  clear b1 b2 b3 b4
  have HB := Aside0.mk (((Below.refl w.heap.size w).alloc (Nat.le_refl _) (.cells (exL.flatMap encInst).toArray 52)).alloc (by simp) (.cells #[.slice (some ⟨w.heap.size, 0, none⟩) 3 3, .int .i64 2, .int .i64 2] 24))
  have h0 : ((w.alloc (.cells (exL.flatMap encInst).toArray 52)).alloc (.cells #[.slice (some ⟨w.heap.size, 0, none⟩) 3 3, .int .i64 2, .int .i64 2] 24)).heap[w.heap.size]? = some (.cells (exL.flatMap encInst).toArray 52 (0, 0)) := al_old (heap_alloc_last w _)
  change Calls _ _ _ ((w.alloc (.cells (exL.flatMap encInst).toArray 52)).alloc (.cells #[.slice (some ⟨w.heap.size, 0, none⟩) 3 3, .int .i64 2, .int .i64 2] 24)) _
  generalize (w.alloc (.cells (exL.flatMap encInst).toArray 52)).alloc (.cells #[.slice (some ⟨w.heap.size, 0, none⟩) 3 3, .int .i64 2, .int .i64 2] 24) = w4 at *
  refine (new_at (l := exL) (a := 2) (b := 2) (c := 3) (rows_C (n := 3) h0 rfl (by decide)) (by decide)).mono ?_
  rintro e w5 hpost
  rcases hpost with ⟨hne, _⟩ | ⟨_, g, rfl, hg, hck, hb5⟩
  · exact absurd ex_fine hne
  have HK := Aside0.mk hck
  have HB5 := Aside0.mk (HB.out.trans (hb5.mono HB.out.size))
  clear hck hb5 hg HB h0
  go_wp2_with fail
  refine (run_at (prog_ok ex_fine) HK.out ⟨#[98, 97]⟩ (by decide) 0 false false 9).mono ?_
  rintro e w6 hpost
  unfold RunPost at hpost
  obtain ⟨hb6, hpost⟩ := hpost
  rw [ex_pairs, ex_finds] at hpost
  rcases hpost with ⟨hf, _⟩ | ⟨_, hp, _⟩ | ⟨_, _, st, ⟨hs, _⟩ | ⟨x, v, hs, rfl, hR⟩⟩
  · exact absurd hf (by decide)
  · exact absurd hp (by decide)
  · cases hs
  obtain rfl := Option.some.inj hs
  obtain ⟨A6, c6, rfl⟩ := Kd.R_slice hR
  have HR6 := Aside0.mk hR
  have HK6 := Aside0.mk (HK.out.step hb6)
  have HB6 := Aside0.mk (HB5.out.trans (hb6.mono HB5.out.size))
  clear hs hR hb6 HK HB5
  go_wp2_with fail
  have hal := (Below.refl w6.heap.size w6).alloc (Nat.le_refl _) (.cells #[.bool true, .slice A6 2 c6] 34)
  have hbx := heap_alloc_last w6 (.cells #[.bool true, .slice A6 2 c6] 34)
  have HR7 := Aside0.mk (Kd.R_below HR6.out hal)
  have HK7 := Aside0.mk (HK6.out.step hal)
  have HB7 := Aside0.mk (HB6.out.trans (hal.mono HB6.out.size))
  obtain ⟨B, hB⟩ : ∃ B, w6.heap.size = B := ⟨_, rfl⟩
  rw [hB] at hbx ⊢
  clear hal HR6 HK6 HB6 hB
  generalize w6.alloc (.cells #[.bool true, .slice A6 2 c6] 34) = w7 at *
  refine (run_at (prog_ok ex_fine) HK7.out ⟨#[98, 97]⟩ (by decide) 0 false false 8).mono ?_
  rintro e w8 hpost
  unfold RunPost at hpost
  obtain ⟨hb8, hpost⟩ := hpost
  rw [ex_pairs] at hpost
  rcases hpost with ⟨hf, _⟩ | ⟨_, _, rfl⟩ | ⟨_, hp, _⟩
  · exact absurd hf (by decide)
  rotate_left
  · exact absurd hp (by decide)
  have hbx8 := (hb8.block B (blk_lt hbx)).trans hbx
  have HR8 := Aside0.mk (Kd.R_below HR7.out hb8)
  have HK8 := Aside0.mk (HK7.out.step hb8)
  have HB8 := Aside0.mk (HB7.out.trans (hb8.mono HB7.out.size))
  clear hb8 HR7 HK7 HB7 hbx b5
  unfold noneV
  have c1 : ∀ o, (w8.alloc o).cell? ⟨B, 1, none⟩ = some (.slice A6 2 c6) := fun o => (World.cell?_alloc_lt w8 o ⟨B, 1, none⟩ (blk_lt hbx8)).trans ((blk_cell hbx8 1).trans rfl)
  go_wp2_with fail
  have hal := (Below.refl w8.heap.size w8).alloc (Nat.le_refl _) (.cells #[.bool false, .slice none 0 0] 34)
  have hal2 := hal.alloc hal.size (.cells ([1, 2].flatMap encInt).toArray 3)
  have hi2 : ((w8.alloc (.cells #[.bool false, .slice none 0 0] 34)).alloc (.cells ([1, 2].flatMap encInt).toArray 3)).heap[(w8.alloc (.cells #[.bool false, .slice none 0 0] 34)).heap.size]? = some (.cells ([1, 2].flatMap encInt).toArray 3 (0, 0)) := heap_alloc_last _ _
  rw [show (w8.alloc (.cells #[.bool false, .slice none 0 0] 34)).heap.size = w8.heap.size + 1 by simp] at hi2
  change Calls _ _ _ ((w8.alloc (.cells #[.bool false, .slice none 0 0] 34)).alloc (.cells ([1, 2].flatMap encInt).toArray 3)) _
  have HK9 := Aside0.mk (HK8.out.step hal2)
  have HB9 := Aside0.mk (HB8.out.trans (hal2.mono HB8.out.size))
  refine (sameI_at (s := [1, 2]) (by decide) (Kd.C_below (Kd.R_reads' HR8.out).2.2 hal2) (Kd.R_reads' HR8.out).2.1 (ints_C (n := 2) (l := [1, 2]) hi2 rfl (by decide)) (by decide)).mono ?_
  clear c1 hal hal2 hi2 HK8 HB8 HR8 hbx8
  generalize (w8.alloc (.cells #[.bool false, .slice none 0 0] 34)).alloc (.cells ([1, 2].flatMap encInt).toArray 3) = w9 at *
  rintro e w10 ⟨rfl, hb10⟩
  have HK10 := Aside0.mk (HK9.out.step hb10)
  have HB10 := Aside0.mk (HB9.out.trans (hb10.mono HB9.out.size))
  clear hb10 HK9 HB9
  go_wp2_with fail
  refine (pairs_at HK10.out ⟨#[98, 97]⟩ (by decide) (by decide)).mono ?_
  rintro e w11 ⟨rfl, hb11⟩
  have HB11 := Aside0.mk (HB10.out.trans (hb11.mono HB10.out.size))
  rw [ex_pairs]
  clear hb11 HB10
  go_wp2
  go_ret
  exact ⟨rfl, HB11.out⟩
attribute [local go_sem] max2_int min2_int max_two min_two
set_option maxHeartbeats 8000000 in
set_option maxRecDepth 100000 in
theorem BitstateRefuses_walk (A : Option Addr) (c : Nat) (l : List I5) (a b : Int) (long budget : Int) (w : World) (hC : Kd.C kIn w A l.length l) (hc : l.length ≤ c) (hG : l.length ≤ maxLen ∧ ∀ y ∈ l, wf5 y) (ha : wfI a) (hb : wfI b) :
    Calls Try.prog 5 #[.agg #[.slice A l.length c, .int .i64 a, .int .i64 b], .int .i64 long, .int .i64 budget] w (fun e w' => e = .returned (.bool true) ∧ Below w.heap.size w w') := by
  obtain ⟨w0, hw0⟩ : ∃ w0, w0 = w.alloc (.cells #[.slice A l.length c, .int .i64 a, .int .i64 b] 24) := ⟨_, rfl⟩
  have hb0 : Below w.heap.size w w0 := by rw [hw0]; exact (Below.refl _ w).alloc (Nat.le_refl _) _
  have hl0 : w0.heap[w.heap.size]? = some (.cells #[.slice A l.length c, .int .i64 a, .int .i64 b] 24 (0, 0)) := by rw [hw0]; exact heap_alloc_last w _
  have HB := Aside0.mk hb0
  have HP := Aside0.mk hl0
  have HW := Aside0.mk (works_at w0)
  have HC := Aside0.mk (Kd.C_below hC hb0)
  have HV := Aside0.mk (fun (W : World) (h : Kd.C kIn W A l.length l) => new_at (a := a) (b := b) (w := W) h hc)
  have b5 : ∀ W t, (Instr.build 26 #[(0, .string t)]).run Try.prog W = .ok (.agg #[.string t, .int .i64 0, .bool false, .bool false]) W := fun W t => run_build W 26 _ _ (by kernel_rfl)
  obtain ⟨n, hn⟩ : ∃ n, l.length = n := ⟨_, rfl⟩
  have HLN := Aside0.mk hn
  rw [hn] at HC HP HV hc hw0 hG hC ⊢
  clear hb0 hl0 hC hn hG hc
  go_enter Try.func5, Try.ntmps5
  go_wp2_with fail
  rw [← hw0]
  refine HW.out.mono ?_
  rintro e w1 ⟨rfl, hb1⟩
  have HB1 := Aside0.mk (HB.out.trans (hb1.mono HB.out.size))
  have HC1 := Aside0.mk (Kd.C_below HC.out hb1)
  have HP1 := Aside0.mk ((hb1.block _ (blk_lt HP.out)).trans HP.out)
  have p0 : w1.cell? ⟨w.heap.size, 0, none⟩ = some (.slice A n c) := (blk_cell HP1.out 0).trans rfl
  have p1 : w1.cell? ⟨w.heap.size, 1, none⟩ = some (.int .i64 a) := (blk_cell HP1.out 1).trans rfl
  have p2 : w1.cell? ⟨w.heap.size, 2, none⟩ = some (.int .i64 b) := (blk_cell HP1.out 2).trans rfl
  clear hb1 HB HP HC HW hw0
  go_wp2_with fail
  refine (HV.out _ HC1.out).mono ?_
  rintro e w2 hpost
  clear p0 p1 p2
  rcases hpost with ⟨hne, rfl, hb2⟩ | ⟨he0, g, rfl, hg, hck, hb2⟩
  · have t1 : ((lookC l a b).2 == 0) = false := beq_eq_false_iff_ne.2 hne
    have HB2 := Aside0.mk (HB1.out.trans (hb2.mono HB1.out.size))
    have t2 : ((lookC l a b).2 != 0) = true := bne_iff_ne.2 hne
    generalize (lookC l a b).2 = code at t1 t2 hne
    clear hb2 hne HB1 HC1 HP1
    go_wp2_with fail
    go_ret
    exact ⟨rfl, HB2.out⟩
  have HK := Aside0.mk hck
  have HPR := Aside0.mk (prog_ok he0)
  have HB2 := Aside0.mk (HB1.out.trans (hb2.mono HB1.out.size))
  have HP2 := Aside0.mk ((hb2.block _ (blk_lt HP1.out)).trans HP1.out)
  have p0 : w2.cell? ⟨w.heap.size, 0, none⟩ = some (.slice A n c) := (blk_cell HP2.out 0).trans rfl
  clear hck hb2 hg he0 HB1 HC1 HP1
  by_cases g0 : long < 0
  · go_wp2_with fail
    go_ret
    exact ⟨rfl, HB2.out⟩
  have d0 : decide (long < 0) = false := decide_eq_false g0
  obtain ⟨k, rfl⟩ := Int.eq_ofNat_of_zero_le (show 0 ≤ long by omega)
  by_cases g1 : 131072 < k
  · have d1 : decide ((131072 : Int) < (k : Int)) = true := decide_eq_true (by omega)
    have d1' : decide (131072 < k) = true := decide_eq_true g1
    clear g0
    go_wp2_with fail
    go_ret
    exact ⟨rfl, HB2.out⟩
  have d1 : decide ((131072 : Int) < (k : Int)) = false := decide_eq_false (by omega)
  have d1' : decide (131072 < k) = false := decide_eq_false g1
  by_cases g2 : 300 < n
  · have d2 : decide ((300 : Int) < (n : Int)) = true := decide_eq_true (by omega)
    have d2' : decide (300 < n) = true := decide_eq_true g2
    clear g0 g1
    go_wp2_with fail
    go_ret
    exact ⟨rfl, HB2.out⟩
  have d2 : decide ((300 : Int) < (n : Int)) = false := decide_eq_false (by omega)
  have d2' : decide (300 < n) = false := decide_eq_false g2
  have HKN := Aside0.mk (show k ≤ 131072 ∧ n ≤ 300 by omega)
  clear g0 g1 g2
  go_upto_region 6 with fail
  clear d0 d1 d2 d1' d2' p0
  go_wp2_with fail
  refine (repeat_at ⟨#[98]⟩ k w2 (by have := HKN.out; omega) (by show 1 * k ≤ _; have := HKN.out; omega)).mono ?_
  rintro e w3 ⟨rfl, hb3⟩
  have hsz : (repS ⟨#[98]⟩ k).size = k := by rw [repS_size]; exact Nat.mul_one k
  have HSZ := Aside0.mk hsz
  have HK3 := Aside0.mk (HK.out.step hb3)
  have HB3 := Aside0.mk (HB2.out.trans (hb3.mono HB2.out.size))
  have HP3 := Aside0.mk ((hb3.block _ (blk_lt HP2.out)).trans HP2.out)
  have p0 : w3.cell? ⟨w.heap.size, 0, none⟩ = some (.slice A n c) := (blk_cell HP3.out 0).trans rfl
  clear hb3 HK HB2 HP2 hsz
  generalize repS ⟨#[98]⟩ k = t at HSZ ⊢
  obtain ⟨p, hp⟩ : ∃ p, n * (k + 1) = p := ⟨_, rfl⟩
  have hpb : p ≤ 300 * 131073 := by rw [← hp]; exact Nat.mul_le_mul (by have := HKN.out; omega) (by have := HKN.out; omega)
  have HPE := Aside0.mk hp
  have m0 : IntKind.i64.wrap ((k : Int) + 1) = (k : Int) + 1 := by have := HKN.out; rw [IntKind.wrap_i64]; omega
  have m1 : IntKind.i64.wrap ((n : Int) * ((k : Int) + 1)) = (p : Int) := by rw [show (n : Int) * ((k : Int) + 1) = (p : Int) by rw [← hp]; simp, IntKind.wrap_i64]; omega
  clear hp
  have HPP := Aside0.mk (show pairsV l.length t.size = min p 262145 by rw [pairsV_min, HLN.out, HSZ.out, HPE.out])
  have HRA := Aside0.mk (run_at HPR.out HK3.out t (by rw [HSZ.out]; have := HKN.out; omega) 0 false false budget)
  have HPA := Aside0.mk (fun W (h : Ck W g l a b (lookC l a b).1) => pairs_at h t (by rw [HLN.out]; have := HKN.out; omega) (by rw [HSZ.out]; have := HKN.out; omega))
  by_cases hr : budget < (p : Int) ∨ 262144 < p
  · go_upto_region 8 with fail
    go_cut [11] (fun s11 wc => s11 = .bool true ∧ w3 = wc)
    case first =>
      by_cases g5 : budget < (p : Int)
      · have e5 : decide (budget < (p : Int)) = true := decide_eq_true g5
        clear hr
        go_wp2_with fail
        go_meet
        case rel => exact ⟨rfl, rfl⟩
      · have e5 : decide (budget < (p : Int)) = false := decide_eq_false g5
        have e6 : decide ((262144 : Int) < (p : Int)) = true := decide_eq_true (by omega)
        have e7 : decide (262144 < p) = true := decide_eq_true (by omega)
        clear hr
        go_wp2_with fail
        go_meet
        case rel => exact ⟨rfl, rfl⟩
    case rest =>
      obtain ⟨rfl, rfl⟩ := hcut
      have HR := Aside0.mk hr
      clear hr p0
      go_wp2_with fail
      refine HRA.out.mono ?_
      rintro e w4 hpost
      unfold RunPost at hpost
      obtain ⟨hb4, hpost⟩ := hpost
      rw [HPP.out] at hpost
      rcases hpost with ⟨hf, _⟩ | ⟨_, _, rfl⟩ | ⟨_, hp, _⟩
      · exfalso; rcases hf with hf | hf <;> omega
      rotate_left
      · exfalso; have := HR.out; omega
      have HK4 := Aside0.mk (HK3.out.step hb4)
      have HB4 := Aside0.mk (HB3.out.trans (hb4.mono HB3.out.size))
      clear hb4 HRA
      unfold noneV
      go_wp2_with fail
      have hal := (Below.refl w4.heap.size w4).alloc (Nat.le_refl _) (.cells #[.bool false, .slice none 0 0] 34)
      refine (HPA.out _ (HK4.out.step hal)).mono ?_
      rintro e w5 ⟨rfl, hb5⟩
      have HB5 := Aside0.mk ((HB4.out.trans (hal.mono HB4.out.size)).trans (hb5.mono (HB4.out.trans (hal.mono HB4.out.size)).size))
      rw [HPP.out]
      clear hb5 hal HB4
      by_cases g6 : 262145 < p
      · rw [Nat.min_eq_right (by omega)]
        go_wp2_with fail
        go_ret
        exact ⟨rfl, HB5.out⟩
      · rw [Nat.min_eq_left (by omega)]
        go_wp2_with fail
        go_ret
        exact ⟨rfl, HB5.out⟩
  · have HR := Aside0.mk hr
    have e5 : decide (budget < (p : Int)) = false := decide_eq_false (by omega)
    have e6 : decide ((262144 : Int) < (p : Int)) = false := decide_eq_false (by omega)
    have e7 : decide (262144 < p) = false := decide_eq_false (by omega)
    clear hr
    by_cases g6 : 20000 < p
    · have e8 : decide ((20000 : Int) < (p : Int)) = true := decide_eq_true (by omega)
      have e9 : decide (20000 < p) = true := decide_eq_true (by omega)
      go_wp2_with fail
      go_ret
      exact ⟨rfl, HB3.out⟩
    · have e8 : decide ((20000 : Int) < (p : Int)) = false := decide_eq_false (by omega)
      have e9 : decide (20000 < p) = false := decide_eq_false (by omega)
      go_wp2_with fail
      clear p0 e5 e6 e7 e8 e9
      refine HRA.out.mono ?_
      rintro e w4 hpost
      unfold RunPost at hpost
      obtain ⟨hb4, hpost⟩ := hpost
      rw [HPP.out, Nat.min_eq_left (by omega)] at hpost
      have HPL := Aside0.mk (show min p 262145 = p by omega)
      rcases hpost with ⟨hf, _⟩ | ⟨_, hp, _⟩ | ⟨_, _, st, ⟨_, rfl⟩ | ⟨x, v, _, rfl, hR⟩⟩
      · exfalso; rcases hf with hf | hf <;> omega
      · exfalso; exact HR.out hp
      · have HK4 := Aside0.mk (HK3.out.step hb4)
        have HB4 := Aside0.mk (HB3.out.trans (hb4.mono HB3.out.size))
        clear hb4 HRA
        unfold noneV
        go_wp2_with fail
        have hal := (Below.refl w4.heap.size w4).alloc (Nat.le_refl _) (.cells #[.bool false, .slice none 0 0] 34)
        refine (HPA.out _ (HK4.out.step hal)).mono ?_
        rintro e w5 ⟨rfl, hb5⟩
        have HB5 := Aside0.mk ((HB4.out.trans (hal.mono HB4.out.size)).trans (hb5.mono (HB4.out.trans (hal.mono HB4.out.size)).size))
        rw [HPP.out, HPL.out]
        clear hb5 hal HB4
        go_wp2_with fail
        go_ret
        exact ⟨rfl, HB5.out⟩
      · obtain ⟨A4, c4, rfl⟩ := Kd.R_slice hR
        have HK4 := Aside0.mk (HK3.out.step hb4)
        have HB4 := Aside0.mk (HB3.out.trans (hb4.mono HB3.out.size))
        clear hb4 HRA hR
        generalize x.length = nx
        go_wp2_with fail
        have hal := (Below.refl w4.heap.size w4).alloc (Nat.le_refl _) (.cells #[.bool true, .slice A4 nx c4] 34)
        refine (HPA.out _ (HK4.out.step hal)).mono ?_
        rintro e w5 ⟨rfl, hb5⟩
        have HB5 := Aside0.mk ((HB4.out.trans (hal.mono HB4.out.size)).trans (hb5.mono (HB4.out.trans (hal.mono HB4.out.size)).size))
        rw [HPP.out, HPL.out]
        clear hb5 hal HB4
        go_wp2_with fail
        go_ret
        exact ⟨rfl, HB5.out⟩
end Go.Proofs.Ytjajehjhonabdaa.Pure
