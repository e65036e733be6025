/- BitstateFinds: any program, ask and budget; no condition. -/
import Derived.Test.YtjajehjhonabdaaPureBitRef2
import Derived.Test.YtjajehjhonabdaaXOpenA
import Derived.Laws.Closers25b
namespace Go.Proofs.Ytjajehjhonabdaa.Pure
open Go.RowKit Go.Proofs.Ytjajehjhonabdaa.HBitstateFinds Go.Proofs.YtjajehjhonabdaaW.PrintWords Go.Proofs.YtjajehjhonabdaaW.PrintLast Go.Proofs.YtjajehjhonabdaaW.PrintMore
open Go.Proofs.YtjajehjhonabdaaX
open Bit
set_option linter.unusedVariables false
set_option linter.unusedSimpArgs false
end Go.Proofs.Ytjajehjhonabdaa.Pure
namespace Go.Proofs.YtjajehjhonabdaaX
open Go.RowKit Go.Proofs.YtjajehjhonabdaaW.PrintWords
open Go.ChangeShapes Go.WideShapes Go.Deep
section
variable {H : Type} {enc : TypeId × Value → H} {W : World} {base : Nat} {spare : Nat → Bool} {held : Bool}
def kAsk : Kd (ByteArray × (Int × (Bool × Bool))) := Kd.pair Kd.string (Kd.pair (Kd.int .i64) (Kd.pair Kd.bool Kd.bool))
set_option maxRecDepth 100000 in
theorem opens_ask : Opens enc Try.prog W base spare held 26 kAsk (fun x => x.1.size ≤ maxLen ∧ wfI x.2.1 ∧ True ∧ True) :=
  Opens.struct Try.underlying26 (by kernel_rfl) (OpensF.cons rfl (by kernel_rfl) rfl (Opens.string Try.underlying9) (OpensF.cons rfl (by kernel_rfl) rfl (Opens.int Try.underlying3) (OpensF.cons rfl (by kernel_rfl) rfl (Opens.bool Try.underlying4) (OpensF.one rfl (by kernel_rfl) (Opens.bool Try.underlying4)))))
/-- A question that came in. -/
theorem open_ask {cs : Array Value} {d : DataW H} {ps : List MemPlace} (h : DataW.Trod enc Try.prog W base spare held 26 (.agg cs) d ps) :
    ∃ (t : ByteArray) (f : Int) (x y : Bool), cs = #[.string t, .int .i64 f, .bool x, .bool y] ∧ t.size ≤ maxLen ∧ wfI f := by
  obtain ⟨fuel, hf⟩ := h
  obtain ⟨⟨t, f, x, y⟩, hK, hG⟩ := opens_ask _ _ _ hf
  obtain ⟨c1, c2, e, h1, c3, c4, rfl, h2, c5, c6, rfl, h3, h4⟩ := hK
  have e1 : c1 = [.string t] := h1
  have e3 : c3 = [.int .i64 f] := h2
  have e5 : c5 = [.bool x] := h3
  have e6 : c6 = [.bool y] := h4
  subst e1 e3 e5 e6
  simp [Value.cells] at e
  exact ⟨t, f, x, y, Array.ext' e, hG.1, hG.2.1⟩
end
end Go.Proofs.YtjajehjhonabdaaX
namespace Go.Proofs.Ytjajehjhonabdaa.Pure
open Go.RowKit Go.Proofs.Ytjajehjhonabdaa.HBitstateFinds Go.Proofs.YtjajehjhonabdaaW.PrintWords Go.Proofs.YtjajehjhonabdaaW.PrintLast Go.Proofs.YtjajehjhonabdaaW.PrintMore
open Go.Proofs.YtjajehjhonabdaaX
open Bit
set_option linter.unusedVariables false
set_option linter.unusedSimpArgs false
theorem refpairs_at {l : List I5} (hn : l.length ≤ 4000) (t : ByteArray) (ht : t.size ≤ 262144) (w : World) : Calls Try.prog 12 #[.int .i64 l.length, .string t] w fun e w' => e = .returned (.int .i64 (pairsV l.length t.size : Nat)) ∧ Drawn0 w w' := by
  refine burinref21_Pairs.calls (l.length : Int) t _ w ?_
  unfold burinref21_Pairs.f
  have h1 : wrap64 ((t.size : Int) + 1) = (t.size : Int) + 1 := by unfold wrap64; omega
  have hm : l.length * (t.size + 1) ≤ 4000 * 262145 := Nat.mul_le_mul hn (by omega)
  have h2 : wrap64 ((l.length : Int) * ((t.size : Int) + 1)) = ((l.length * (t.size + 1) : Nat) : Int) := by
    rw [show (l.length : Int) * ((t.size : Int) + 1) = ((l.length * (t.size + 1) : Nat) : Int) by simp]
    generalize l.length * (t.size + 1) = m at hm
    unfold wrap64
    omega
  rw [if_neg (by omega), h1, h2, pairsV_min]
  generalize l.length * (t.size + 1) = m at hm
  by_cases g : 262144 < m
  · rw [if_pos (by omega), Nat.min_eq_right (by omega)]; rfl
  · rw [if_neg (by omega), Nat.min_eq_left (by omega)]
def RefRunPost (W : World) (l : List I5) (t : ByteArray) (a0 b from_ : Int) (anch long : Bool) (budget : Int) (e : Ending) (w' : World) : Prop :=
  Below W.heap.size W w' ∧
  (((from_ < 0 ∨ (t.size : Int) < from_) ∧ e = .returned (.tuple #[.agg #[.bool false, .slice none 0 0], .int .i64 1])) ∨
   ((0 ≤ from_ ∧ from_ ≤ (t.size : Int)) ∧ (budget < (pairsV l.length t.size : Nat) ∨ 262144 < pairsV l.length t.size) ∧ e = .returned (.tuple #[.agg #[.bool false, .slice none 0 0], .int .i64 210])) ∨
   ((0 ≤ from_ ∧ from_ ≤ (t.size : Int)) ∧ ((pairsV l.length t.size : Nat) ≤ budget ∧ pairsV l.length t.size ≤ 262144) ∧
     ((searchV l t a0 b from_ anch long = none ∧ e = .returned (.tuple #[.agg #[.bool false, .slice none 0 0], .int .i64 0])) ∨
     ∃ x v, searchV l t a0 b from_ anch long = some x ∧ e = .returned (.tuple #[.agg #[.bool true, v], .int .i64 0]) ∧ Kd.R (Kd.int .i64) 3 w' W.heap.size (fun _ => True) v x)))
set_option maxHeartbeats 8000000 in
set_option maxRecDepth 20000 in
theorem refrun_at {l : List I5} {a0 b : Int} (hP : ProgOk l a0 b) (t : ByteArray) (ht : t.size ≤ 262144) {A0 : Option Addr} {c0 : Nat} {W : World} (hC : Kd.C kIn W A0 l.length l) (from_ : Int) (anch long : Bool) (budget : Int) :
    Calls Try.prog 9 #[.agg #[.slice A0 l.length c0, .int .i64 a0, .int .i64 b], askV t from_ anch long, .int .i64 budget] W (RefRunPost W l t a0 b from_ anch long budget) := by
  obtain ⟨w3, hw3⟩ : ∃ w3, w3 = ((W.alloc (.cells #[.slice A0 l.length c0, .int .i64 a0, .int .i64 b] 24)).alloc (.cells #[.string t, .int .i64 from_, .bool anch, .bool long] 26)).alloc (.cells #[.bool false, .slice none 0 0] 34) := ⟨_, rfl⟩
  have hb3 : Below W.heap.size W w3 := by rw [hw3]; exact (((Below.refl W.heap.size W).alloc (Nat.le_refl _) _).alloc (by simp) _).alloc (by simp; omega) _
  have HPR := Aside0.mk (show w3.heap[W.heap.size]? = some (.cells #[.slice A0 l.length c0, .int .i64 a0, .int .i64 b] 24 (0, 0)) from by rw [hw3]; exact al_oldR (al_oldR (heap_alloc_last W _)))
  have HX := Aside0.mk (show w3.heap[W.heap.size + 1]? = some (.cells #[.string t, .int .i64 from_, .bool anch, .bool long] 26 (0, 0)) from by rw [hw3]; exact al_oldR (heap_at (by simp)))
  have HF := Aside0.mk (show w3.heap[W.heap.size + 1 + 1]? = some (.cells #[.bool false, .slice none 0 0] 34 (0, 0)) from by rw [hw3]; exact heap_at (by simp))
  have HPO := Aside0.mk (show RefRunPost W l t a0 b from_ anch long budget = fun e w' => Below W.heap.size W w' ∧ (((from_ < 0 ∨ (t.size : Int) < from_) ∧ e = .returned (.tuple #[.agg #[.bool false, .slice none 0 0], .int .i64 1])) ∨ ((0 ≤ from_ ∧ from_ ≤ (t.size : Int)) ∧ (budget < (pairsV l.length t.size : Nat) ∨ 262144 < pairsV l.length t.size) ∧ e = .returned (.tuple #[.agg #[.bool false, .slice none 0 0], .int .i64 210])) ∨ ((0 ≤ from_ ∧ from_ ≤ (t.size : Int)) ∧ ((pairsV l.length t.size : Nat) ≤ budget ∧ pairsV l.length t.size ≤ 262144) ∧ ((searchV l t a0 b from_ anch long = none ∧ e = .returned (.tuple #[.agg #[.bool false, .slice none 0 0], .int .i64 0])) ∨ ∃ x v, searchV l t a0 b from_ anch long = some x ∧ e = .returned (.tuple #[.agg #[.bool true, v], .int .i64 0]) ∧ Kd.R (Kd.int .i64) 3 w' W.heap.size (fun _ => True) v x))) from rfl)
  generalize RefRunPost W l t a0 b from_ anch long budget = PO at HPO ⊢
  have HL := Aside0.mk hP.len
  have HP := Aside0.mk hP
  have HC := Aside0.mk hC
  have HB3 := Aside0.mk hb3
  have HPA := Aside0.mk (fun w => refpairs_at hP.len.2 t ht w)
  unfold askV
  by_cases hf : from_ < 0 ∨ (t.size : Int) < from_
  · subst hw3
    clear hP hC hb3
    by_cases c : from_ < 0
    · go_enter Try.func9, Try.ntmps9
      go_wp2_with fail
      refine bodyPost_ret (results_ct rfl _ _ (W.heap.size + 1 + 1) 34 #[.bool false, .slice none 0 0] (0, 0) _ rfl HF.out Try.underlying34 rfl (by kernel_rfl)) rfl ?_
      rw [HPO.out]
      exact ⟨HB3.out, .inl ⟨hf, rfl⟩⟩
    · have c1 : decide (from_ < 0) = false := decide_eq_false c
      have c2 : decide ((t.size : Int) < from_) = true := decide_eq_true (by omega)
      go_enter Try.func9, Try.ntmps9
      go_wp2_with fail
      refine bodyPost_ret (results_ct rfl _ _ (W.heap.size + 1 + 1) 34 #[.bool false, .slice none 0 0] (0, 0) _ rfl HF.out Try.underlying34 rfl (by kernel_rfl)) rfl ?_
      rw [HPO.out]
      exact ⟨HB3.out, .inl ⟨hf, rfl⟩⟩
  · have hf2 : 0 ≤ from_ ∧ from_ ≤ (t.size : Int) := by omega
    have HF2 := Aside0.mk hf2
    have HW3 := Aside0.mk hw3
    have HPL := Aside0.mk (fun (h : pairsV l.length t.size ≤ 262144) => show l.length * (t.size + 1) ≤ 262144 from by rw [← pairsV_le h]; exact h)
    obtain ⟨p, hp⟩ : ∃ p, pairsV l.length t.size = p := ⟨_, rfl⟩
    rw [hp] at HPA HPO HPL
    have c0 : decide (from_ < 0) = false := decide_eq_false (by omega)
    have c1 : decide ((t.size : Int) < from_) = false := decide_eq_false (by omega)
    have HT := Aside0.mk ht
    clear hp hf hf2 hP hC hb3 hw3 ht
    go_enter Try.func9, Try.ntmps9
    go_wp2_with fail
    rw [← HW3.out]
    refine (HPA.out w3).mono ?_
    rintro e w4 ⟨rfl, hd⟩
    obtain ⟨n4, rfl⟩ := hd.out
    clear hd c0 c1 HW3
    have HPR4 := Aside0.mk (show (w3.drewN n4).heap[W.heap.size]? = some (.cells #[.slice A0 l.length c0, .int .i64 a0, .int .i64 b] 24 (0, 0)) from HPR.out)
    have HX4 := Aside0.mk (show (w3.drewN n4).heap[W.heap.size + 1]? = some (.cells #[.string t, .int .i64 from_, .bool anch, .bool long] 26 (0, 0)) from HX.out)
    have HF4 := Aside0.mk (show (w3.drewN n4).heap[W.heap.size + 1 + 1]? = some (.cells #[.bool false, .slice none 0 0] 34 (0, 0)) from HF.out)
    have HB4 := Aside0.mk (pw_below_drewN HB3.out n4)
    generalize w3.drewN n4 = w4 at *
    have k0 := (blk_cell HF4.out 0).trans rfl
    have k1 := (blk_cell HF4.out 1).trans rfl
    have f0 := blk_frozen HF4.out 0
    have f1 := blk_frozen HF4.out 1
    by_cases d : budget < (p : Int)
    · have d1 : decide (budget < (p : Int)) = true := decide_eq_true d
      go_wp2_with fail
      refine bodyPost_ret (results_ct rfl _ _ (W.heap.size + 1 + 1) 34 #[.bool false, .slice none 0 0] (0, 0) _ rfl (blk_put (blk_put HF4.out 0 _ rfl) 1 _ rfl) Try.underlying34 rfl (by kernel_rfl)) rfl ?_
      rw [HPO.out]
      exact ⟨below_set (below_set HB4.out (by omega)) (by omega), .inr (.inl ⟨HF2.out, .inl d, rfl⟩)⟩
    · have d1 : decide (budget < (p : Int)) = false := decide_eq_false d
      by_cases d2 : 262144 < p
      · have d3 : decide ((262144 : Int) < (p : Int)) = true := decide_eq_true (by omega)
        have d4 : decide (262144 < p) = true := decide_eq_true d2
        go_wp2_with fail
        refine bodyPost_ret (results_ct rfl _ _ (W.heap.size + 1 + 1) 34 #[.bool false, .slice none 0 0] (0, 0) _ rfl (blk_put (blk_put HF4.out 0 _ rfl) 1 _ rfl) Try.underlying34 rfl (by kernel_rfl)) rfl ?_
        rw [HPO.out]
        exact ⟨below_set (below_set HB4.out (by omega)) (by omega), .inr (.inl ⟨HF2.out, .inr d2, rfl⟩)⟩
      · have d3 : decide ((262144 : Int) < (p : Int)) = false := decide_eq_false (by omega)
        have d4 : decide (262144 < p) = false := decide_eq_false d2
        have HPB := Aside0.mk (show (p : Int) ≤ budget ∧ p ≤ 262144 by omega)
        have p0 := (blk_cell HPR4.out 0).trans rfl
        have p1 := (blk_cell HPR4.out 1).trans rfl
        have p2 := (blk_cell HPR4.out 2).trans rfl
        have x0 := (blk_cell HX4.out 0).trans rfl
        have x1 := (blk_cell HX4.out 1).trans rfl
        have x2 := (blk_cell HX4.out 2).trans rfl
        have x3 := (blk_cell HX4.out 3).trans rfl
        clear d d2
        go_wp2_with fail
        clear p0 p1 p2 x0 x1 x2 x3 k0 k1 f0 f1 d1 d3 d4
        refine (match_ref HP.out t (HPL.out HPB.out.2) (c0 := c0) (Kd.C_below HC.out HB4.out) from_ anch long).mono ?_
        intro e w5 hpost
        unfold MatchPost at hpost
        obtain ⟨hb5, hpost⟩ := hpost
        have HF5 := Aside0.mk (blk_below HF4.out hb5)
        have HB5 := Aside0.mk (HB4.out.trans (hb5.mono HB4.out.size))
        have HFL := Aside0.mk (blk_lt HF4.out)
        have k0 := (blk_cell HF5.out 0).trans rfl
        have k1 := (blk_cell HF5.out 1).trans rfl
        have f0 := blk_frozen HF5.out 0
        have f1 := blk_frozen HF5.out 1
        clear hb5
        rcases hpost with ⟨hf, _⟩ | ⟨_, ⟨hs, rfl⟩ | ⟨x, v, hs, rfl, hR⟩⟩
        · exfalso; have := HF2.out; omega
        · have HS := Aside0.mk hs
          clear hs
          go_wp2_with fail
          refine bodyPost_ret (results_ct rfl _ _ (W.heap.size + 1 + 1) 34 #[.bool false, .slice none 0 0] (0, 0) _ rfl (blk_put (blk_put HF5.out 0 _ rfl) 1 _ rfl) Try.underlying34 rfl (by kernel_rfl)) rfl ?_
          rw [HPO.out]
          exact ⟨below_set (below_set HB5.out (by omega)) (by omega), .inr (.inr ⟨HF2.out, HPB.out, .inl ⟨HS.out, rfl⟩⟩)⟩
        · have HS := Aside0.mk hs
          have HR := Aside0.mk hR
          obtain ⟨A9, c9, rfl⟩ := Kd.R_slice hR
          clear hs hR
          obtain ⟨n9, hn9⟩ : ∃ n9, x.length = n9 := ⟨_, rfl⟩
          rw [hn9] at HR ⊢
          clear hn9
          go_wp2_with fail
          have hne : ∀ k, (Value.slice A9 n9 c9).ownBlock = some k → k ≠ W.heap.size + 1 + 1 := fun k hk e => by
            have h1 := Kd.R_base HR.out k hk
            have h3 := HFL.out
            omega
          refine bodyPost_ret (results_ct rfl _ _ (W.heap.size + 1 + 1) 34 #[.bool true, .slice A9 n9 c9] (0, 0) _ rfl (blk_put (blk_put HF5.out 0 _ rfl) 1 _ rfl) Try.underlying34 rfl (by kernel_rfl)) rfl ?_
          rw [HPO.out]
          refine ⟨below_set (below_set HB5.out (by omega)) (by omega), .inr (.inr ⟨HF2.out, HPB.out, .inr ⟨x, _, HS.out, rfl, ?_⟩⟩)⟩
          exact Kd.R_lower (R_stay HR.out (fun k hk => (Below.heap_setCell _ _ _ _ (hne k hk)).trans (Below.heap_setCell _ _ _ _ (hne k hk))) (fun _ _ => trivial)) HB4.out.size
theorem back_in (l : List S52) : (l.map inOf).map (fun x : I5 => (⟨x.1, x.2.1, x.2.2.1, x.2.2.2.1, x.2.2.2.2⟩ : S52)) = l := by
  rw [List.map_map]
  exact List.map_id'' (fun x => rfl) l
def toIn (x : I5) : S52 := ⟨x.1, x.2.1, x.2.2.1, x.2.2.2.1, x.2.2.2.2⟩
theorem forth_in (l : List I5) : (l.map toIn).map inOf = l := by
  rw [List.map_map]
  exact List.map_id'' (fun x => rfl) l
theorem toCI {A : Option Addr} {l : List I5} {w : World} (h : Kd.C kIn w A l.length l) : Kd.C k52 w A (l.map toIn).length (l.map toIn) := by
  rw [List.length_map]
  exact (C_iso (d := kIn) (f := inOf)).2 (by rw [forth_in]; exact h)
theorem check_f (k : Nat) (l : List S52) (a b : Int) : prog_Check.f (k + 1) l a b = some (checkC (l.map inOf) a b) := by
  unfold prog_Check.f checkC
  rw [List.length_map]
  have hj : ∀ q : Bool, q = true → prog_Check.j0 (k + 1) q l a b = some 130 := by
    intro q hq
    simp only [prog_Check.j0]
    rw [if_pos hq]
  by_cases h1 : (l.length : Int) < 1
  · rw [if_pos h1, hj _ rfl, if_neg (by omega)]
  · by_cases h2 : (l.length : Int) > 4000
    · rw [if_neg h1, if_pos h2, hj _ rfl, if_neg (by omega)]
    · rw [if_neg h1, if_neg h2, place_f]
      simp only [Option.bind_some]
      by_cases h3 : 0 ≤ a ∧ a < 4000
      · rw [decide_eq_true h3, if_pos rfl]
        by_cases h4 : b < 0
        · rw [if_pos h4, hj _ rfl, if_neg (by omega)]
        · rw [if_neg h4]
          by_cases h5 : b > 64
          · rw [hj _ (decide_eq_true h5), if_neg (by omega)]
          · rw [decide_eq_false h5]
            simp only [prog_Check.j0]
            rw [if_neg (by decide), show ext_badInsts.f l () = some ((l.map ofIn).any fun x => !fitsB x) by unfold ext_badInsts.f; rw [if_pos (by omega)]]
            simp only [Option.bind_some]
            have e : (l.map ofIn).any (fun x => !fitsB x) = !((l.map inOf).all fitsB) := by
              rw [List.all_eq_not_any_not]
              simp
            rw [e]
            cases h6 : (l.map inOf).all fitsB
            · rw [Bool.not_false, if_pos rfl, if_neg (by simp)]
            · rw [Bool.not_true, if_neg (by decide), if_pos ⟨by omega, by omega, h3, by omega, by omega, rfl⟩]
      · rw [decide_eq_false h3, if_neg (by decide), hj _ rfl, if_neg (fun g => h3 g.2.2.1)]
theorem checkC_ok {l : List I5} {a b : Int} (h : checkC l a b = 0) : 1 ≤ l.length ∧ l.length ≤ 4000 ∧ (0 ≤ a ∧ a < 4000) ∧ 0 ≤ b ∧ b ≤ 64 ∧ l.all fitsB = true := by
  unfold checkC at h
  split at h
  · assumption
  · omega
theorem fits_xy {x : I5} (h : fitsB x = true) : (0 ≤ x.2.2.2.1 ∧ x.2.2.2.1 < 4000) ∧ (0 ≤ x.2.2.2.2 ∧ x.2.2.2.2 < 4000) := by
  unfold fitsB at h
  simp only [Bool.and_eq_true, decide_eq_true_eq] at h
  exact ⟨h.2.2.1, h.2.2.2.1⟩
theorem led_ok {l : List I5} {a b : Int} (h : checkC l a b = 0) (ht : targetsB l a = true) : ledB l = true := by
  rw [ledB_iff]
  intro x hx t htx
  have hf := List.all_eq_true.1 (checkC_ok h).2.2.2.2.2 x hx
  have hxy := fits_xy hf
  unfold targetsB at ht
  simp only [Bool.and_eq_true, Bool.not_eq_true'] at ht
  have hp : pastB l.length x = false := by
    rw [Bool.eq_false_iff]
    intro g
    rw [List.any_eq_true.2 ⟨x, hx, g⟩] at ht
    exact absurd ht.2 (by decide)
  have hlt : t < l.length := by
    unfold pastB at hp
    rw [Bool.eq_false_iff] at hp
    by_cases g : t < l.length
    · exact g
    · exact absurd (List.any_eq_true.2 ⟨t, htx, decide_eq_true (by omega)⟩) hp
  refine ⟨?_, hlt⟩
  unfold leadsV at htx
  repeat' split at htx
  all_goals simp at htx
  all_goals omega
theorem look_f (k : Nat) (l : List S52) (a b : Int) : verify_look.f (k + 1) l a b = some (lookC (l.map inOf) a b) := by
  unfold verify_look.f lookC
  rw [check_f]
  simp only [Option.bind_some]
  by_cases h0 : checkC (l.map inOf) a b = 0
  · have hk := checkC_ok h0
    rw [List.length_map] at hk
    rw [if_pos h0, if_neg (fun g => g h0), show verify_targets.f l a b = some (targetsB (l.map inOf) a) by unfold verify_targets.f; rw [if_pos (by omega)]]
    simp only [Option.bind_some]
    cases ht : targetsB (l.map inOf) a with
    | false => rw [if_neg (by decide), if_pos rfl]
    | true =>
      rw [if_pos rfl, if_neg (by decide), show verify_slots.f l a b = some (slotsB (l.map inOf) b) by unfold verify_slots.f; rw [if_pos (by omega)]]
      simp only [Option.bind_some]
      cases hs : slotsB (l.map inOf) b with
      | false => rw [if_neg (by decide), if_pos rfl]
      | true =>
        rw [if_pos rfl, if_neg (by decide), show verify_ordered.f l a b = some ((ordL (l.map inOf)).getD [], (ordL (l.map inOf)).isSome) by unfold verify_ordered.f; rw [if_pos ⟨by omega, by omega, led_ok h0 ht⟩]]
        simp only [Option.bind_some]
        cases ordL (l.map inOf) with
        | none => rw [if_neg (by simp)]
        | some o => rw [if_pos (by simp)]; rfl
  · rw [if_neg h0, if_pos h0]
    have : checkC (l.map inOf) a b = 130 := by
      unfold checkC at h0 ⊢
      split
      · rename_i g; rw [if_pos g] at h0; exact absurd rfl h0
      · rfl
    rw [this]
theorem lookAt : LookAt := by
  intro A c l a b w hC hc
  have := verify_look.calls 1 A c (l.map toIn) a b _ _ w (toCI hC) (by rw [List.length_map]; exact hc) (look_f 0 (l.map toIn) a b)
  rw [List.length_map, forth_in] at this
  exact this
theorem look_len {l : List I5} {a b : Int} (h : (lookC l a b).2 = 0) : checkC l a b = 0 ∧ targetsB l a = true ∧ slotsB l b = true ∧ ∃ o, ordL l = some o ∧ (lookC l a b).1 = o := by
  unfold lookC at h ⊢
  by_cases h0 : checkC l a b ≠ 0
  · rw [if_pos h0] at h; exact absurd h (by decide)
  · rw [if_neg h0] at h ⊢
    cases ht : targetsB l a with
    | false => rw [ht, if_pos rfl] at h; exact absurd h (by decide)
    | true =>
      rw [ht, if_neg (by decide)] at h
      rw [if_neg (by decide)]
      cases hs : slotsB l b with
      | false => rw [hs, if_pos rfl] at h; exact absurd h (by decide)
      | true =>
        rw [hs, if_neg (by decide)] at h
        rw [if_neg (by decide)]
        cases ho : ordL l with
        | none => rw [ho] at h; exact absurd h (by decide)
        | some o => exact ⟨by omega, rfl, rfl, o, rfl, rfl⟩
theorem new_at {A : Option Addr} {c : Nat} {l : List I5} {a b : Int} {w : World} (hC : Kd.C kIn w A l.length l) (hc : l.length ≤ c) : Calls Try.prog 6 #[.agg #[.slice A l.length c, .int .i64 a, .int .i64 b]] w (NewPost w l a b) :=
  new_any lookAt A c l a b w hC hc (fun h => (checkC_ok (look_len h).1).2.1)
theorem rows_C {W : World} {B n : Nat} {l : List I5} (h : W.heap[B]? = some (.cells (l.flatMap encInst).toArray 52 (0, 0))) (hn : l.length = n) (hm : n ≤ 4000) : Kd.C kIn W (some ⟨B, 0, none⟩) n l := by
  subst hn
  have hlen := flat_len (enc := encInst) 5 (fun _ => rfl) l
  have : Kd.R kIn 52 W 0 (fun _ => True) (.slice (some ⟨B, 0, none⟩) l.length l.length) l := (fixed_R kIn_fixed).2 ⟨fun _ _ => trivial, hlen, .inr ⟨B, l.length, _, rfl, Nat.zero_le _, h, Nat.le_refl _, by unfold maxLen; omega, by rw [List.size_toArray]; exact hlen, by rw [List.toList_toArray, ← show (l.flatMap encInst).length = l.length * kIn.sz from hlen]; exact List.take_length⟩⟩
  exact (Kd.R_reads' this).2.2
theorem sameI_l0 (s : List Int) (hn : s.length ≤ 2000000) (d : Nat) : ∀ i : Nat, i ≤ s.length → s.length - i = d → Ev (fun k => burinbook_SameInts.l0 k s s true i) true := by
  induction d with
  | zero =>
    intro i hi hd
    refine Ev.step (fun k => ?_) (Ev.now _)
    simp only [burinbook_SameInts.l0]
    rw [if_pos trivial, if_neg (by omega)]
  | succ d ih =>
    intro i hi hd
    refine Ev.step (fun k => ?_) (ih (i + 1) (by omega) (by omega))
    simp only [burinbook_SameInts.l0]
    rw [if_pos trivial, if_pos (by omega), if_pos (by omega), if_pos (by omega), wrap_v (x := (i : Int) + 1) (y := ((i + 1 : Nat) : Int)) (by omega) (by omega) (by omega)]
    simp
theorem sameI_ev (s : List Int) (hn : s.length ≤ 2000000) : Ev (fun k => burinbook_SameInts.f k s s) true := by
  have := sameI_l0 s hn _ 0 (Nat.zero_le _) rfl
  unfold burinbook_SameInts.f
  simpa using this
theorem sameI_at {A A' : Option Addr} {c c' : Nat} {s : List Int} {w : World} (hn : s.length ≤ 2000000) (h : Kd.C (Kd.int .i64) w A s.length s) (hc : s.length ≤ c) (h' : Kd.C (Kd.int .i64) w A' s.length s) (hc' : s.length ≤ c') :
    Calls Try.prog 18 #[.slice A s.length c, .slice A' s.length c'] w (fun e w' => e = .returned (.bool true) ∧ Below w.heap.size w w') := by
  obtain ⟨k, hk⟩ := Ev.rounds (sameI_ev s hn)
  exact (burinbook_SameInts.calls k A c s A' c' s true w h hc h' hc' hk).mono fun e w' ⟨he, hd⟩ => ⟨he, hd.below⟩
theorem al_old {w : World} {o x : Obj} {k : Nat} (h : w.heap[k]? = some x) : (w.alloc o).heap[k]? = some x := (((Below.refl _ w).alloc (Nat.le_refl _) o).block _ (blk_lt h)).trans h
theorem ints_C {W : World} {B n : Nat} {l : List Int} (h : W.heap[B]? = some (.cells (l.flatMap encInt).toArray 3 (0, 0))) (hn : l.length = n) (hm : n ≤ 4000) : Kd.C (Kd.int .i64) W (some ⟨B, 0, none⟩) n l := by
  subst hn
  have hlen := flat_len (enc := encInt) 1 (fun _ => rfl) l
  have : Kd.R (Kd.int .i64) 3 W 0 (fun _ => True) (.slice (some ⟨B, 0, none⟩) l.length l.length) l := (fixed_R kI_fixed).2 ⟨fun _ _ => trivial, hlen, .inr ⟨B, l.length, _, rfl, Nat.zero_le _, h, Nat.le_refl _, by unfold maxLen; omega, by rw [List.size_toArray]; exact hlen, by rw [List.toList_toArray, ← show (l.flatMap encInt).length = l.length * kI.sz from hlen]; exact List.take_length⟩⟩
  exact (Kd.R_reads' this).2.2
theorem wrap_in2 {x : Int} (h0 : -9223372036854775808 ≤ x) (h1 : x ≤ 9223372036854775807) : wrap64 x = x := by
  unfold wrap64
  omega
theorem sameInts2_l (a b : List Int) (hl : a.length = b.length) (hn : a.length ≤ 9223372036854775807) (d : Nat) : ∀ (k i : Nat) (same : Bool), i ≤ a.length → a.length - i = d → d < k →
    burinbook_SameInts.l0 k a b same i = some (same && decide (a.drop i = b.drop i)) := by
  induction d with
  | zero =>
    intro k i same hi hd hk
    obtain ⟨k, rfl⟩ : ∃ m, k = m + 1 := ⟨k - 1, by omega⟩
    have e : i = a.length := by omega
    subst e
    simp only [burinbook_SameInts.l0]
    rw [List.drop_of_length_le (Nat.le_refl _), List.drop_of_length_le (by omega)]
    cases same with
    | true => rw [if_pos rfl, if_neg (by omega)]; simp
    | false => simp
  | succ d ih =>
    intro k i same hi hd hk
    obtain ⟨k, rfl⟩ : ∃ m, k = m + 1 := ⟨k - 1, by omega⟩
    simp only [burinbook_SameInts.l0]
    cases same with
    | false => simp
    | true =>
      have h1 : i < a.length := by omega
      have h2 : i < b.length := by omega
      rw [if_pos rfl, if_pos (by omega), if_pos (by omega), if_pos (by omega), wrap_in2 (x := (i : Int) + 1) (by omega) (by omega), show (i : Int) + 1 = ((i + 1 : Nat) : Int) by omega, ih k (i + 1) _ (by omega) (by omega) (by omega)]
      have ea : rd a (i : Int) = a[i] := by simp [rd, h1]
      have eb : rd b (i : Int) = b[i] := by simp [rd, h2]
      have ed : (a.drop i = b.drop i) ↔ (a[i] = b[i] ∧ a.drop (i + 1) = b.drop (i + 1)) := by
        conv => lhs; rw [List.drop_eq_getElem_cons h1, List.drop_eq_getElem_cons h2, List.cons.injEq]
      rw [ea, eb]
      by_cases h : a[i] = b[i]
      · rw [show (a[i] == b[i]) = true by simpa using h]
        by_cases h' : a.drop (i + 1) = b.drop (i + 1)
        · rw [decide_eq_true h', decide_eq_true (ed.2 ⟨h, h'⟩)]
        · rw [decide_eq_false h', decide_eq_false (fun z => h' (ed.1 z).2)]
      · rw [show (a[i] == b[i]) = false by simpa using h, decide_eq_false (fun z => h (ed.1 z).1), Bool.false_and, Bool.and_false]
theorem sameInts2 (a b : List Int) (hn : a.length ≤ 9223372036854775807) (k : Nat) (hk : a.length < k) : burinbook_SameInts.f k a b = some (decide (a = b)) := by
  unfold burinbook_SameInts.f
  by_cases hl : a.length = b.length
  · rw [show ((a.length : Int) == (b.length : Int)) = true by rw [hl]; simp]
    have := sameInts2_l a b hl hn a.length k 0 true (Nat.zero_le _) (by omega) (by omega)
    simpa using this
  · obtain ⟨k, rfl⟩ : ∃ m, k = m + 1 := ⟨k - 1, by omega⟩
    rw [show ((a.length : Int) == (b.length : Int)) = false by simp; omega]
    simp only [burinbook_SameInts.l0]
    rw [if_neg (by simp), decide_eq_false (fun h => hl (by rw [h]))]
def exL : List I5 := [(5, 0, 0, 0, 0), (6, 0, 0, 0, 0), (1, 97, 97, 0, 0)]
theorem ex_fine : (lookC exL 2 2).2 = 0 := by decide +kernel
theorem ex_finds : searchV exL ⟨#[98, 97]⟩ 2 2 0 false false = some [1, 2] := by decide +kernel
theorem ex_pairs : pairsV exL.length (⟨#[98, 97]⟩ : ByteArray).size = 9 := by decide +kernel
set_option maxHeartbeats 4000000 in
set_option maxRecDepth 100000 in
theorem works_at (w : World) : Calls Try.prog 7 #[] w (fun e w' => e = .returned (.bool true) ∧ Below w.heap.size w w') := by
  have b1 : ∀ W, (Instr.build 52 #[(0, .int .i64 5)]).run Try.prog W = .ok (.agg #[.int .i64 5, .int .i64 0, .int .i64 0, .int .i64 0, .int .i64 0]) W := fun W => run_build W 52 _ _ (by kernel_rfl)
  have b2 : ∀ W, (Instr.build 52 #[(0, .int .i64 6)]).run Try.prog W = .ok (.agg #[.int .i64 6, .int .i64 0, .int .i64 0, .int .i64 0, .int .i64 0]) W := fun W => run_build W 52 _ _ (by kernel_rfl)
  have b3 : ∀ W, (Instr.build 52 #[(0, .int .i64 1), (1, .int .i64 97), (2, .int .i64 97)]).run Try.prog W = .ok (.agg #[.int .i64 1, .int .i64 97, .int .i64 97, .int .i64 0, .int .i64 0]) W := fun W => run_build W 52 _ _ (by kernel_rfl)
  have b4 : ∀ W v, (Instr.build 24 #[(1, .int .i64 2), (2, .int .i64 2), (0, .slice (some v) 3 3)]).run Try.prog W = .ok (.agg #[.slice (some v) 3 3, .int .i64 2, .int .i64 2]) W := fun W v => run_build W 24 _ _ (by kernel_rfl)
  have b5 : ∀ W, (Instr.build 26 #[(0, .string ⟨#[98, 97]⟩)]).run Try.prog W = .ok (.agg #[.string ⟨#[98, 97]⟩, .int .i64 0, .bool false, .bool false]) W := fun W => run_build W 26 _ _ (by kernel_rfl)
  go_enter Try.func7, Try.ntmps7
  go_wp2_with fail
  clear b1 b2 b3 b4
  have HB := Aside0.mk (((Below.refl w.heap.size w).alloc (Nat.le_refl _) (.cells (exL.flatMap encInst).toArray 52)).alloc (by simp) (.cells #[.slice (some ⟨w.heap.size, 0, none⟩) 3 3, .int .i64 2, .int .i64 2] 24))
  have h0 : ((w.alloc (.cells (exL.flatMap encInst).toArray 52)).alloc (.cells #[.slice (some ⟨w.heap.size, 0, none⟩) 3 3, .int .i64 2, .int .i64 2] 24)).heap[w.heap.size]? = some (.cells (exL.flatMap encInst).toArray 52 (0, 0)) := al_old (heap_alloc_last w _)
  change Calls _ _ _ ((w.alloc (.cells (exL.flatMap encInst).toArray 52)).alloc (.cells #[.slice (some ⟨w.heap.size, 0, none⟩) 3 3, .int .i64 2, .int .i64 2] 24)) _
  generalize (w.alloc (.cells (exL.flatMap encInst).toArray 52)).alloc (.cells #[.slice (some ⟨w.heap.size, 0, none⟩) 3 3, .int .i64 2, .int .i64 2] 24) = w4 at *
  refine (new_at (l := exL) (a := 2) (b := 2) (c := 3) (rows_C (n := 3) h0 rfl (by decide)) (by decide)).mono ?_
  rintro e w5 hpost
  rcases hpost with ⟨hne, _⟩ | ⟨_, g, rfl, hg, hck, hb5⟩
  · exact absurd ex_fine hne
  have HK := Aside0.mk hck
  have HB5 := Aside0.mk (HB.out.trans (hb5.mono HB.out.size))
  clear hck hb5 hg HB h0
  go_wp2_with fail
  refine (run_at (prog_ok ex_fine) HK.out ⟨#[98, 97]⟩ (by decide) 0 false false 9).mono ?_
  rintro e w6 hpost
  unfold RunPost at hpost
  obtain ⟨hb6, hpost⟩ := hpost
  rw [ex_pairs, ex_finds] at hpost
  rcases hpost with ⟨hf, _⟩ | ⟨_, hp, _⟩ | ⟨_, _, st, ⟨hs, _⟩ | ⟨x, v, hs, rfl, hR⟩⟩
  · exact absurd hf (by decide)
  · exact absurd hp (by decide)
  · cases hs
  obtain rfl := Option.some.inj hs
  obtain ⟨A6, c6, rfl⟩ := Kd.R_slice hR
  have HR6 := Aside0.mk hR
  have HK6 := Aside0.mk (HK.out.step hb6)
  have HB6 := Aside0.mk (HB5.out.trans (hb6.mono HB5.out.size))
  clear hs hR hb6 HK HB5
  go_wp2_with fail
  have hal := (Below.refl w6.heap.size w6).alloc (Nat.le_refl _) (.cells #[.bool true, .slice A6 2 c6] 34)
  have hbx := heap_alloc_last w6 (.cells #[.bool true, .slice A6 2 c6] 34)
  have HR7 := Aside0.mk (Kd.R_below HR6.out hal)
  have HK7 := Aside0.mk (HK6.out.step hal)
  have HB7 := Aside0.mk (HB6.out.trans (hal.mono HB6.out.size))
  obtain ⟨B, hB⟩ : ∃ B, w6.heap.size = B := ⟨_, rfl⟩
  rw [hB] at hbx ⊢
  clear hal HR6 HK6 HB6 hB
  generalize w6.alloc (.cells #[.bool true, .slice A6 2 c6] 34) = w7 at *
  refine (run_at (prog_ok ex_fine) HK7.out ⟨#[98, 97]⟩ (by decide) 0 false false 8).mono ?_
  rintro e w8 hpost
  unfold RunPost at hpost
  obtain ⟨hb8, hpost⟩ := hpost
  rw [ex_pairs] at hpost
  rcases hpost with ⟨hf, _⟩ | ⟨_, _, rfl⟩ | ⟨_, hp, _⟩
  · exact absurd hf (by decide)
  rotate_left
  · exact absurd hp (by decide)
  have hbx8 := (hb8.block B (blk_lt hbx)).trans hbx
  have HR8 := Aside0.mk (Kd.R_below HR7.out hb8)
  have HK8 := Aside0.mk (HK7.out.step hb8)
  have HB8 := Aside0.mk (HB7.out.trans (hb8.mono HB7.out.size))
  clear hb8 HR7 HK7 HB7 hbx b5
  unfold noneV
  have c1 : ∀ o, (w8.alloc o).cell? ⟨B, 1, none⟩ = some (.slice A6 2 c6) := fun o => (World.cell?_alloc_lt w8 o ⟨B, 1, none⟩ (blk_lt hbx8)).trans ((blk_cell hbx8 1).trans rfl)
  go_wp2_with fail
  have hal := (Below.refl w8.heap.size w8).alloc (Nat.le_refl _) (.cells #[.bool false, .slice none 0 0] 34)
  have hal2 := hal.alloc hal.size (.cells ([1, 2].flatMap encInt).toArray 3)
  have hi2 : ((w8.alloc (.cells #[.bool false, .slice none 0 0] 34)).alloc (.cells ([1, 2].flatMap encInt).toArray 3)).heap[(w8.alloc (.cells #[.bool false, .slice none 0 0] 34)).heap.size]? = some (.cells ([1, 2].flatMap encInt).toArray 3 (0, 0)) := heap_alloc_last _ _
  rw [show (w8.alloc (.cells #[.bool false, .slice none 0 0] 34)).heap.size = w8.heap.size + 1 by simp] at hi2
  change Calls _ _ _ ((w8.alloc (.cells #[.bool false, .slice none 0 0] 34)).alloc (.cells ([1, 2].flatMap encInt).toArray 3)) _
  have HK9 := Aside0.mk (HK8.out.step hal2)
  have HB9 := Aside0.mk (HB8.out.trans (hal2.mono HB8.out.size))
  refine (sameI_at (s := [1, 2]) (by decide) (Kd.C_below (Kd.R_reads' HR8.out).2.2 hal2) (Kd.R_reads' HR8.out).2.1 (ints_C (n := 2) (l := [1, 2]) hi2 rfl (by decide)) (by decide)).mono ?_
  clear c1 hal hal2 hi2 HK8 HB8 HR8 hbx8
  generalize (w8.alloc (.cells #[.bool false, .slice none 0 0] 34)).alloc (.cells ([1, 2].flatMap encInt).toArray 3) = w9 at *
  rintro e w10 ⟨rfl, hb10⟩
  have HK10 := Aside0.mk (HK9.out.step hb10)
  have HB10 := Aside0.mk (HB9.out.trans (hb10.mono HB9.out.size))
  clear hb10 HK9 HB9
  go_wp2_with fail
  refine (pairs_at HK10.out ⟨#[98, 97]⟩ (by decide) (by decide)).mono ?_
  rintro e w11 ⟨rfl, hb11⟩
  have HB11 := Aside0.mk (HB10.out.trans (hb11.mono HB10.out.size))
  rw [ex_pairs]
  clear hb11 HB10
  go_wp2
  go_ret
  exact ⟨rfl, HB11.out⟩
attribute [local go_sem] max2_int min2_int max_two min_two
/-- What a search answers. -/
def outV (l : List I5) (t : ByteArray) (a b fr : Int) (an lo : Bool) (budget : Int) : Bool × List Int × Int :=
  if fr < 0 ∨ (t.size : Int) < fr then (false, [], 1) else if budget < (pairsV l.length t.size : Nat) ∨ 262144 < pairsV l.length t.size then (false, [], 210) else match searchV l t a b fr an lo with
    | none => (false, [], 0)
    | some x => (true, x, 0)
def OutPost (ok : Bool) (xs : List Int) (cd : Int) (W : World) (e : Ending) (w' : World) : Prop :=
  ∃ A c, ∃ st : Nat, e = .returned (.tuple #[.agg #[.bool ok, .slice A xs.length c], .int .i64 st, .int .i64 cd]) ∧ Kd.R (Kd.int .i64) 3 w' W.heap.size (fun _ => True) (.slice A xs.length c) xs ∧ Below W.heap.size W w'
def RefOutPost (ok : Bool) (xs : List Int) (cd : Int) (W : World) (e : Ending) (w' : World) : Prop :=
  ∃ A c, e = .returned (.tuple #[.agg #[.bool ok, .slice A xs.length c], .int .i64 cd]) ∧ Kd.R (Kd.int .i64) 3 w' W.heap.size (fun _ => True) (.slice A xs.length c) xs ∧ Below W.heap.size W w'
theorem out_some {l : List I5} {t : ByteArray} {a b fr : Int} {an lo : Bool} {budget : Int} (h0 : 0 ≤ fr ∧ fr ≤ (t.size : Int)) (h1 : (pairsV l.length t.size : Nat) ≤ budget ∧ pairsV l.length t.size ≤ 262144) : outV l t a b fr an lo budget = match searchV l t a b fr an lo with
    | none => (false, [], 0)
    | some x => (true, x, 0) := by
  unfold outV
  rw [if_neg (by omega), if_neg (by omega)]
theorem run_out3 {W : World} {l : List I5} {t : ByteArray} {a b fr : Int} {an lo : Bool} {budget : Int} {e : Ending} {w' : World} (h : RunPost W l t a b fr an lo budget e w') :
    OutPost (outV l t a b fr an lo budget).1 (outV l t a b fr an lo budget).2.1 (outV l t a b fr an lo budget).2.2 W e w' := by
  obtain ⟨hb, h⟩ := h
  unfold OutPost
  rcases h with ⟨hf, rfl⟩ | ⟨hf, hp, rfl⟩ | ⟨hf, hp, st, ⟨hs, rfl⟩ | ⟨x, v, hs, rfl, hR⟩⟩
  · rw [show outV l t a b fr an lo budget = (false, [], 1) by unfold outV; rw [if_pos hf]]
    exact ⟨none, 0, 0, rfl, Kd.R_nil _ _ _ _ _, hb⟩
  · rw [show outV l t a b fr an lo budget = (false, [], 210) by unfold outV; rw [if_neg (by omega), if_pos hp]]
    exact ⟨none, 0, 0, rfl, Kd.R_nil _ _ _ _ _, hb⟩
  · rw [out_some hf hp, hs]
    exact ⟨none, 0, st, rfl, Kd.R_nil _ _ _ _ _, hb⟩
  · rw [out_some hf hp, hs]
    obtain ⟨A, c, rfl⟩ := Kd.R_slice hR
    exact ⟨A, c, st, rfl, hR, hb⟩
theorem ref_out3 {W : World} {l : List I5} {t : ByteArray} {a b fr : Int} {an lo : Bool} {budget : Int} {e : Ending} {w' : World} (h : RefRunPost W l t a b fr an lo budget e w') :
    RefOutPost (outV l t a b fr an lo budget).1 (outV l t a b fr an lo budget).2.1 (outV l t a b fr an lo budget).2.2 W e w' := by
  obtain ⟨hb, h⟩ := h
  unfold RefOutPost
  rcases h with ⟨hf, rfl⟩ | ⟨hf, hp, rfl⟩ | ⟨hf, hp, ⟨hs, rfl⟩ | ⟨x, v, hs, rfl, hR⟩⟩
  · rw [show outV l t a b fr an lo budget = (false, [], 1) by unfold outV; rw [if_pos hf]]
    exact ⟨none, 0, rfl, Kd.R_nil _ _ _ _ _, hb⟩
  · rw [show outV l t a b fr an lo budget = (false, [], 210) by unfold outV; rw [if_neg (by omega), if_pos hp]]
    exact ⟨none, 0, rfl, Kd.R_nil _ _ _ _ _, hb⟩
  · rw [out_some hf hp, hs]
    exact ⟨none, 0, rfl, Kd.R_nil _ _ _ _ _, hb⟩
  · rw [out_some hf hp, hs]
    obtain ⟨A, c, rfl⟩ := Kd.R_slice hR
    exact ⟨A, c, rfl, hR, hb⟩
theorem ints_len {w : World} {base : Nat} {A : Option Addr} {n c : Nat} {xs : List Int} (hR : Kd.R (Kd.int .i64) 3 w base (fun _ => True) (.slice A n c) xs) : xs.length ≤ 9223372036854775807 := by
  have hO := ((fixed_R kI_fixed).1 hR).2
  rcases hO.2 with ⟨h, _⟩ | ⟨g, cap, cur, _, hg, hh, hle, hmax, hsz, _⟩
  · omega
  · unfold maxLen at hmax; omega
theorem sameF_at {ok : Bool} {A A' : Option Addr} {c c' : Nat} {s : List Int} {w : World} (hn : s.length ≤ 9223372036854775807) (h : Kd.C (Kd.int .i64) w A s.length s) (hc : s.length ≤ c) (h' : Kd.C (Kd.int .i64) w A' s.length s) (hc' : s.length ≤ c') :
    Calls Try.prog 10 #[.agg #[.bool ok, .slice A s.length c], .agg #[.bool ok, .slice A' s.length c']] w (fun e w' => e = .returned (.bool true) ∧ Below w.heap.size w w') := by
  refine burinbook_SameFound.calls (s.length + 1) ok A c s ok A' c' s true w h hc h' hc' ?_
  unfold burinbook_SameFound.f
  rw [if_pos (by simp), sameInts2 s s hn _ (Nat.lt_succ_self _), decide_eq_true rfl]
  rfl
theorem ck_late {W W2 : World} {g : Nat} {l : List I5} {a b : Int} {o : List Int} (h : Ck W g l a b o) {row : Option Nat} (hrow : ∀ k, row = some k → g < k) {B : Nat} (hB : Below B W W2) (hk : ∀ k, some k ≠ row → W2.heap[k]? = W.heap[k]?) : Ck W2 g l a b o := by
  obtain ⟨w0, A0, c0, A3, c3, h1, h2, h3, h4, h5⟩ := h
  have hne : ∀ {k : Nat}, k ≤ g → some k ≠ row := fun hk e => by have := hrow _ e.symm; omega
  exact ⟨w0, A0, c0, A3, c3, (hk g (hne (Nat.le_refl _))).trans h1, h2, ⟨hB.os.trans h3.os, hB.tape.trans h3.tape, hB.output.trans h3.output, Nat.le_trans h3.size hB.size, fun k hlt => (hk k (hne (by omega))).trans (h3.block k hlt)⟩, h4, h5⟩
/-- What stands while the answers are looked at. -/
structure FSt (w : World) (F G B3 B5 : Nat) (A A3 A5 : Option Addr) (c c3 c5 n : Nat) (l : List I5) (a b : Int) (t : ByteArray) (fr : Int) (an lo : Bool) (ok : Bool) (xs : List Int) (g : Nat) (o : List Int) (W : World) : Prop where
  below : Below w.heap.size w W
  p : W.heap[w.heap.size]? = some (.cells #[.slice A l.length c, .int .i64 a, .int .i64 b] 24 (0, 0))
  x : W.heap[w.heap.size + 1]? = some (.cells #[.string t, .int .i64 fr, .bool an, .bool lo] 26 (0, 0))
  f : W.heap[F]? = some (.cells #[.bool ok, .slice A3 n c3] 34 (0, 0))
  q : W.heap[G]? = some (.cells #[.bool ok, .slice A5 n c5] 34 (0, 0))
  ck : Ck W g l a b o
  r3 : Kd.R (Kd.int .i64) 3 W B3 (fun k => k < F) (.slice A3 n c3) xs
  r5 : Kd.R (Kd.int .i64) 3 W B5 (fun k => k < G) (.slice A5 n c5) xs
theorem FSt.step {w : World} {F G B3 B5 : Nat} {A A3 A5 : Option Addr} {c c3 c5 n : Nat} {l : List I5} {a b : Int} {t : ByteArray} {fr : Int} {an lo : Bool} {ok : Bool} {xs : List Int} {g : Nat} {o : List Int} {W W' : World} (h : FSt w F G B3 B5 A A3 A5 c c3 c5 n l a b t fr an lo ok xs g o W) (hb : Below W.heap.size W W') : FSt w F G B3 B5 A A3 A5 c c3 c5 n l a b t fr an lo ok xs g o W' :=
  ⟨h.below.trans (hb.mono h.below.size), blk_below h.p hb, blk_below h.x hb, blk_below h.f hb, blk_below h.q hb, h.ck.step hb, Kd.R_below h.r3 hb, Kd.R_below h.r5 hb⟩
theorem FSt.cells {w : World} {F G B3 B5 : Nat} {A A3 A5 : Option Addr} {c c3 c5 n : Nat} {l : List I5} {a b : Int} {t : ByteArray} {fr : Int} {an lo : Bool} {ok : Bool} {xs : List Int} {g : Nat} {o : List Int} {W : World} (h : FSt w F G B3 B5 A A3 A5 c c3 c5 n l a b t fr an lo ok xs g o W) :
    W.cell? ⟨w.heap.size, 0, none⟩ = some (.slice A l.length c) ∧ W.cell? ⟨w.heap.size + 1, 0, none⟩ = some (.string t) ∧ W.cell? ⟨F, 0, none⟩ = some (.bool ok) ∧ W.cell? ⟨F, 1, none⟩ = some (.slice A3 n c3) ∧ W.cell? ⟨G, 0, none⟩ = some (.bool ok) ∧ W.cell? ⟨G, 1, none⟩ = some (.slice A5 n c5) :=
  ⟨(blk_cell h.p 0).trans rfl, (blk_cell h.x 0).trans rfl, (blk_cell h.f 0).trans rfl, (blk_cell h.f 1).trans rfl, (blk_cell h.q 0).trans rfl, (blk_cell h.q 1).trans rfl⟩
set_option maxHeartbeats 8000000 in
set_option maxRecDepth 100000 in
theorem BitstateFinds_walk (A : Option Addr) (c : Nat) (l : List I5) (a b : Int) (t : ByteArray) (fr : Int) (an lo : Bool) (budget : Int) (w : World) (hC : Kd.C kIn w A l.length l) (hc : l.length ≤ c) (hG : l.length ≤ maxLen ∧ ∀ y ∈ l, wf5 y) (ha : wfI a) (hb : wfI b) (ht : t.size ≤ maxLen) (hf : wfI fr) :
    Calls Try.prog 3 #[.agg #[.slice A l.length c, .int .i64 a, .int .i64 b], .agg #[.string t, .int .i64 fr, .bool an, .bool lo], .int .i64 budget] w (fun e w' => e = .returned (.bool true) ∧ Below w.heap.size w w') := by
  clear hG ha hb ht hf
  obtain ⟨w0, hw0⟩ : ∃ w0, w0 = (w.alloc (.cells #[.slice A l.length c, .int .i64 a, .int .i64 b] 24)).alloc (.cells #[.string t, .int .i64 fr, .bool an, .bool lo] 26) := ⟨_, rfl⟩
  have hb0 : Below w.heap.size w w0 := by rw [hw0]; exact ((Below.refl _ w).alloc (Nat.le_refl _) _).alloc (by simp) _
  have hl0 : w0.heap[w.heap.size]? = some (.cells #[.slice A l.length c, .int .i64 a, .int .i64 b] 24 (0, 0)) := by rw [hw0]; exact al_oldR (heap_alloc_last w _)
  have hl1 : w0.heap[w.heap.size + 1]? = some (.cells #[.string t, .int .i64 fr, .bool an, .bool lo] 26 (0, 0)) := by rw [hw0]; exact heap_at (by simp)
  have HB := Aside0.mk hb0
  have HP := Aside0.mk hl0
  have HX := Aside0.mk hl1
  have HCC := Aside0.mk (Kd.C_below hC hb0)
  have HCL := Aside0.mk hc
  have HV := Aside0.mk (fun (W : World) (h : Kd.C kIn W A l.length l) => new_at (a := a) (b := b) (w := W) h hc)
  have HL := Aside0.mk (fun (m : Nat) (h : l.length = m) => h)
  clear hb0 hl0 hl1 hC hc
  go_enter Try.func3, Try.ntmps3
  go_wp2_with fail
  rw [← hw0]
  clear hw0
  refine (HV.out _ HCC.out).mono ?_
  rintro e w2 hpost
  rcases hpost with ⟨hne, rfl, hb2⟩ | ⟨he0, g, rfl, hg, hck, hb2⟩
  · have t1 : ((lookC l a b).2 == 0) = false := beq_eq_false_iff_ne.2 hne
    have HB2 := Aside0.mk (HB.out.trans (hb2.mono HB.out.size))
    have t2 : ((lookC l a b).2 != 0) = true := bne_iff_ne.2 hne
    generalize (lookC l a b).2 = code at t1 t2 hne
    clear hb2 hne HB HP HX
    go_wp2_with fail
    refine (works_at w2).mono ?_
    rintro e w3 ⟨rfl, hb3⟩
    have HB3 := Aside0.mk (HB2.out.trans (hb3.mono HB2.out.size))
    clear hb3
    go_wp2_with fail
    go_ret
    exact ⟨rfl, HB3.out⟩
  have HK2 := Aside0.mk hck
  have HPR := Aside0.mk (prog_ok he0)
  have HXL := Aside0.mk (show w.heap.size + 1 < w2.heap.size from blk_lt (blk_below HX.out hb2))
  have HGW := Aside0.mk (show g < w2.heap.size from blk_lt hck.choose_spec.choose_spec.choose_spec.choose_spec.choose_spec.1)
  have HB2 := Aside0.mk (HB.out.trans (hb2.mono HB.out.size))
  have HP2 := Aside0.mk (blk_below HP.out hb2)
  have HX2 := Aside0.mk (blk_below HX.out hb2)
  have HC2 := Aside0.mk (Kd.C_below HCC.out hb2)
  have p0 : w2.cell? ⟨w.heap.size, 0, none⟩ = some (.slice A l.length c) := (blk_cell HP2.out 0).trans rfl
  have p1 : w2.cell? ⟨w.heap.size + 1, 0, none⟩ = some (.string t) := (blk_cell HX2.out 0).trans rfl
  clear hck hb2 he0 hg HB HP HX HCC
  by_cases g1 : 60 < l.length
  · have d1 : decide ((60 : Int) < (l.length : Int)) = true := decide_eq_true (by omega)
    have d2 : decide (60 < l.length) = true := decide_eq_true g1
    go_wp2_with fail
    refine (works_at w2).mono ?_
    rintro e w3 ⟨rfl, hb3⟩
    have HB3 := Aside0.mk (HB2.out.trans (hb3.mono HB2.out.size))
    clear hb3
    go_wp2_with fail
    go_ret
    exact ⟨rfl, HB3.out⟩
  have d1 : decide ((60 : Int) < (l.length : Int)) = false := decide_eq_false (by omega)
  have d1' : decide (60 < l.length) = false := decide_eq_false g1
  by_cases g2 : 16 < t.size
  · have d2 : decide ((16 : Int) < (t.size : Int)) = true := decide_eq_true (by omega)
    have d3 : decide (16 < t.size) = true := decide_eq_true g2
    go_wp2_with fail
    refine (works_at w2).mono ?_
    rintro e w3 ⟨rfl, hb3⟩
    have HB3 := Aside0.mk (HB2.out.trans (hb3.mono HB2.out.size))
    clear hb3
    go_wp2_with fail
    go_ret
    exact ⟨rfl, HB3.out⟩
  have d2 : decide ((16 : Int) < (t.size : Int)) = false := decide_eq_false (by omega)
  have d2' : decide (16 < t.size) = false := decide_eq_false g2
  have HRA := Aside0.mk (fun (W : World) (h : Ck W g l a b (lookC l a b).1) => (run_at HPR.out h t (by omega) fr an lo budget).mono (fun e w' h => run_out3 h))
  have HRF := Aside0.mk (fun (W : World) (h : Kd.C kIn W A l.length l) => (refrun_at (c0 := c) HPR.out t (by omega) h fr an lo budget).mono (fun e w' h => ref_out3 h))
  have HPA := Aside0.mk (fun (W : World) (h : Ck W g l a b (lookC l a b).1) => pairs_at h t (by omega) (by omega))
  have HPB := Aside0.mk (fun (W : World) => refpairs_at (l := l) (by omega) t (by omega) W)
  have x1 : w2.cell? ⟨w.heap.size + 1, 1, none⟩ = some (.int .i64 fr) := (blk_cell HX2.out 1).trans rfl
  have x2 : w2.cell? ⟨w.heap.size + 1, 2, none⟩ = some (.bool an) := (blk_cell HX2.out 2).trans rfl
  have x3 : w2.cell? ⟨w.heap.size + 1, 3, none⟩ = some (.bool lo) := (blk_cell HX2.out 3).trans rfl
  clear g1 g2
  generalize hov : outV l t a b fr an lo budget = ov at HRA HRF
  obtain ⟨ok, xs, cd⟩ := ov
  generalize (lookC l a b).1 = o at *
  go_wp2_with fail
  clear p0 p1 x1 x2 x3 d1 d1' d2 d2' hov
  refine (HRA.out w2 HK2.out).mono ?_
  rintro e w3 ⟨A3, c3, st, rfl, hR3, hb3⟩
  have HR3 := Aside0.mk (Kd.R_mono (Kd.R_bound hR3) (ok' := fun k => k < w3.heap.size) (fun k h => h.2.2.1))
  have HN := Aside0.mk (ints_len hR3)
  have HB3 := Aside0.mk (HB2.out.trans (hb3.mono HB2.out.size))
  have HP3 := Aside0.mk (blk_below HP2.out hb3)
  have HX3 := Aside0.mk (blk_below HX2.out hb3)
  have HC3 := Aside0.mk (Kd.C_below HC2.out hb3)
  have HK3 := Aside0.mk (HK2.out.step hb3)
  have HSZ := Aside0.mk hb3.size
  clear hR3 hb3 HB2 HP2 HX2 HC2 HK2
  obtain ⟨n, hn⟩ : ∃ n, xs.length = n := ⟨_, rfl⟩
  have HNN := Aside0.mk hn
  rw [hn] at HR3 ⊢
  clear hn
  go_upto_region 5 with fail
  have hal := (Below.refl w3.heap.size w3).alloc (Nat.le_refl _) (.cells #[.bool ok, .slice A3 n c3] 34)
  have HF4 := Aside0.mk (heap_alloc_last w3 (.cells #[.bool ok, .slice A3 n c3] 34))
  have HR4 := Aside0.mk (Kd.R_below HR3.out hal)
  have HB4 := Aside0.mk (HB3.out.trans (hal.mono HB3.out.size))
  have HP4 := Aside0.mk (blk_below HP3.out hal)
  have HX4 := Aside0.mk (blk_below HX3.out hal)
  have HC4 := Aside0.mk (Kd.C_below HC3.out hal)
  have HK4 := Aside0.mk (HK3.out.step hal)
  have HF := Aside0.mk (show w2.heap.size ≤ w3.heap.size from HSZ.out)
  clear hal HR3 HB3 HP3 HX3 HC3 HK3 HSZ
  generalize w3.heap.size = F at *
  generalize w3.alloc (.cells #[.bool ok, .slice A3 n c3] 34) = w4 at *
  have p0 : w4.cell? ⟨w.heap.size, 0, none⟩ = some (.slice A l.length c) := (blk_cell HP4.out 0).trans rfl
  have p1 : w4.cell? ⟨w.heap.size, 1, none⟩ = some (.int .i64 a) := (blk_cell HP4.out 1).trans rfl
  have p2 : w4.cell? ⟨w.heap.size, 2, none⟩ = some (.int .i64 b) := (blk_cell HP4.out 2).trans rfl
  have x0 : w4.cell? ⟨w.heap.size + 1, 0, none⟩ = some (.string t) := (blk_cell HX4.out 0).trans rfl
  have x1 : w4.cell? ⟨w.heap.size + 1, 1, none⟩ = some (.int .i64 fr) := (blk_cell HX4.out 1).trans rfl
  have x2 : w4.cell? ⟨w.heap.size + 1, 2, none⟩ = some (.bool an) := (blk_cell HX4.out 2).trans rfl
  have x3 : w4.cell? ⟨w.heap.size + 1, 3, none⟩ = some (.bool lo) := (blk_cell HX4.out 3).trans rfl
  go_wp2_with fail
  clear p0 p1 p2 x0 x1 x2 x3
  refine (HRF.out w4 HC4.out).mono ?_
  rintro e w5 ⟨A5, c5, rfl, hR5, hb5⟩
  have hn := HNN.out
  rw [hn] at hR5 ⊢
  have HR5 := Aside0.mk (Kd.R_mono (Kd.R_bound hR5) (ok' := fun k => k < w5.heap.size) (fun k h => h.2.2.1))
  have HR4' := Aside0.mk (Kd.R_below HR4.out hb5)
  have HF5 := Aside0.mk (blk_below HF4.out hb5)
  have HB5 := Aside0.mk (HB4.out.trans (hb5.mono HB4.out.size))
  have HP5 := Aside0.mk (blk_below HP4.out hb5)
  have HX5 := Aside0.mk (blk_below HX4.out hb5)
  have HK5 := Aside0.mk (HK4.out.step hb5)
  have HFL := Aside0.mk (blk_lt HF4.out)
  clear hR5 hb5 hn HR4 HF4 HB4 HP4 HX4 HC4 HK4 HRF
  go_upto_region 6 with fail
  have hal := (Below.refl w5.heap.size w5).alloc (Nat.le_refl _) (.cells #[.bool ok, .slice A5 n c5] 34)
  have HG := Aside0.mk (show F < w5.heap.size from blk_lt HF5.out)
  have HS6 := Aside0.mk (FSt.mk (xs := xs) (HB5.out.trans (hal.mono HB5.out.size)) (blk_below HP5.out hal) (blk_below HX5.out hal) (blk_below HF5.out hal) (heap_alloc_last w5 (.cells #[.bool ok, .slice A5 n c5] 34)) (HK5.out.step hal) (Kd.R_below HR4'.out hal) (Kd.R_below HR5.out hal))
  clear hal HR5 HR4' HF5 HB5 HP5 HX5 HK5
  generalize w5.heap.size = G at *
  generalize w5.alloc (.cells #[.bool ok, .slice A5 n c5] 34) = w6 at *
  have HS7 := Aside0.mk (HS6.out.step (Below.refl w6.heap.size w6).drew)
  clear HS6
  have HSF := Aside0.mk (fun (W : World) {A A' : Option Addr} {c c' B B' : Nat} {P P' : Nat → Prop} (h : Kd.R (Kd.int .i64) 3 W B P (.slice A n c) xs) (h' : Kd.R (Kd.int .i64) 3 W B' P' (.slice A' n c') xs) => show Calls Try.prog 10 #[.agg #[.bool ok, .slice A n c], .agg #[.bool ok, .slice A' n c']] W (fun e w' => e = .returned (.bool true) ∧ Below W.heap.size W w') from by
    have := sameF_at (ok := ok) HN.out (Kd.R_reads' h).2.2 (by rw [HNN.out]; exact (Kd.R_reads' h).2.1) (Kd.R_reads' h').2.2 (by rw [HNN.out]; exact (Kd.R_reads' h').2.1)
    rwa [HNN.out] at this)
  generalize pairsV l.length t.size = pv at HPA HPB
  go_region_held3 (fun W => W.cell? ⟨w.heap.size, 0, none⟩ = some (.slice A l.length c) ∧ W.cell? ⟨w.heap.size + 1, 0, none⟩ = some (.string t) ∧ W.cell? ⟨F, 0, none⟩ = some (.bool ok) ∧ W.cell? ⟨F, 1, none⟩ = some (.slice A3 n c3) ∧ W.cell? ⟨G, 0, none⟩ = some (.bool ok) ∧ W.cell? ⟨G, 1, none⟩ = some (.slice A5 n c5)) (first | exact HS7.out.cells | exact HS8.out.cells | exact HS9.out.cells | exact HS10.out.cells) (first | ((go_at_call 10; refine (HSF.out _ HS7.out.r3 HS7.out.r5).mono ?_; rintro e w8 ⟨rfl, hb8⟩; have HS8 := Aside0.mk (HS7.out.step hb8); clear hb8 HS7)) | ((go_at_call 11; refine (HPA.out _ HS8.out.ck).mono ?_; rintro e w9 ⟨rfl, hb9⟩; have HS9 := Aside0.mk (HS8.out.step hb9); clear hb9 HS8)) | ((go_at_call 12; refine (HPB.out _).mono ?_; rintro e w10 ⟨rfl, hd10⟩; have HS10 := Aside0.mk (HS9.out.step hd10.below); clear hd10 HS9)))
  have k9 := HS10.out.cells.2.2.2.1
  go_wp2_with fail
  refine (spoil_ints xs _ _ _ _ HS10.out.r3).mono ?_
  rintro e w11 ⟨rfl, hb11, hk11⟩
  have hown : ∀ k, (Value.slice A3 n c3).ownBlock = some k → w2.heap.size ≤ k ∧ k < F := fun k hk => ⟨Kd.R_base HS10.out.r3 k hk, HS10.out.r3.1 k hk⟩
  have hne : ∀ k, ¬ (w2.heap.size ≤ k ∧ k < F) → some k ≠ (Value.slice A3 n c3).ownBlock := fun k h e => h (hown k e.symm)
  have HK11 := Aside0.mk (ck_late HS10.out.ck (fun k hk => by have := hown k hk; have := HGW.out; omega) hb11 hk11)
  have HX11 := Aside0.mk ((hk11 _ (hne _ (by have := HXL.out; omega))).trans HS10.out.x)
  have HQ11 := Aside0.mk ((hk11 _ (hne _ (by have := HG.out; omega))).trans HS10.out.q)
  have HR11 := Aside0.mk (R_stay HS10.out.r5 (fun k hk => hk11 k (hne k (by have := Kd.R_base HS10.out.r5 k hk; have := HFL.out; omega))) (ok' := fun _ => True) (fun _ _ => trivial))
  have HB11 := Aside0.mk (HS10.out.below.trans (hb11.mono (by have := HXL.out; omega)))
  clear hb11 hk11 hown hne k9 HS10 HPA HPB
  have x0 : w11.cell? ⟨w.heap.size + 1, 0, none⟩ = some (.string t) := (blk_cell HX11.out 0).trans rfl
  have x1 : w11.cell? ⟨w.heap.size + 1, 1, none⟩ = some (.int .i64 fr) := (blk_cell HX11.out 1).trans rfl
  have x2 : w11.cell? ⟨w.heap.size + 1, 2, none⟩ = some (.bool an) := (blk_cell HX11.out 2).trans rfl
  have x3 : w11.cell? ⟨w.heap.size + 1, 3, none⟩ = some (.bool lo) := (blk_cell HX11.out 3).trans rfl
  go_wp2_with fail
  clear x0 x1 x2 x3
  refine (HRA.out w11 HK11.out).mono ?_
  rintro e w12 ⟨A8, c8, st8, rfl, hR8, hb12⟩
  have hn := HNN.out
  rw [hn] at hR8 ⊢
  have HR8 := Aside0.mk hR8
  have HQ12 := Aside0.mk (blk_below HQ11.out hb12)
  have HR12 := Aside0.mk (Kd.R_below HR11.out hb12)
  have HB12 := Aside0.mk (HB11.out.trans (hb12.mono HB11.out.size))
  clear hR8 hb12 hn HK11 HX11 HQ11 HR11 HB11 HRA
  go_upto_region 9 with fail
  have hal := (Below.refl w12.heap.size w12).alloc (Nat.le_refl _) (.cells #[.bool ok, .slice A8 n c8] 34)
  have HF13 := Aside0.mk (heap_alloc_last w12 (.cells #[.bool ok, .slice A8 n c8] 34))
  have HQ13 := Aside0.mk (blk_below HQ12.out hal)
  have HR13 := Aside0.mk (Kd.R_below HR12.out hal)
  have HR9 := Aside0.mk (Kd.R_below HR8.out hal)
  have HB13 := Aside0.mk (HB12.out.trans (hal.mono HB12.out.size))
  clear hal HR8 HR12 HQ12 HB12
  generalize w12.heap.size = F2 at *
  generalize w12.alloc (.cells #[.bool ok, .slice A8 n c8] 34) = w13 at *
  have f0 : w13.cell? ⟨F2, 0, none⟩ = some (.bool ok) := (blk_cell HF13.out 0).trans rfl
  have f1 : w13.cell? ⟨F2, 1, none⟩ = some (.slice A8 n c8) := (blk_cell HF13.out 1).trans rfl
  have q0 : w13.cell? ⟨G, 0, none⟩ = some (.bool ok) := (blk_cell HQ13.out 0).trans rfl
  have q1 : w13.cell? ⟨G, 1, none⟩ = some (.slice A5 n c5) := (blk_cell HQ13.out 1).trans rfl
  go_wp2_with fail
  clear f0 f1 q0 q1
  refine (HSF.out _ HR9.out HR13.out).mono ?_
  rintro e w14 ⟨rfl, hb14⟩
  have HB14 := Aside0.mk (HB13.out.trans (hb14.mono HB13.out.size))
  clear hb14
  go_wp2_with fail
  refine (works_at _).mono ?_
  rintro e w15 ⟨rfl, hb15⟩
  have HB15 := Aside0.mk (HB14.out.trans (hb15.mono HB14.out.size))
  clear hb15
  go_wp2_with fail
  go_ret
  exact ⟨rfl, HB15.out⟩
end Go.Proofs.Ytjajehjhonabdaa.Pure
