import Derived.Test.YtoihlfiacnljhaaXRangesA
namespace Go.Proofs.YtoihlfiacnljhaaX
open Go.RowKit Go.Proofs.YtoihlfiacnljhaaW.PrintWords Go.Proofs.YtoihlfiacnljhaaW.PrintLast Go.Proofs.YtoihlfiacnljhaaW.PrintMore
set_option linter.unusedVariables false
set_option linter.unusedSimpArgs false
/-- A list that the book has lent: it lies in a row of the call's own, and behind it the mark. -/
def Lent (w : World) (base : Nat) (v : Value) (l : List (Int × Int)) : Prop :=
  ∃ A c, v = .slice A l.length c ∧ Kd.R kRg 41 w base (fun _ => True) (.slice A (l.length + 1) c) (l ++ [(7, 0)])
theorem Lent.below {w w1 : World} {base : Nat} {v : Value} {l : List (Int × Int)} (h : Lent w base v l) (hb : Below w.heap.size w w1) : Lent w1 base v l := by
  obtain ⟨A, c, hv, hR⟩ := h
  exact ⟨A, c, hv, Kd.R_below hR hb⟩
theorem Lent.reads {w : World} {base : Nat} {v : Value} {l : List (Int × Int)} (h : Lent w base v l) : ∃ A c, v = .slice A l.length c ∧ l.length + 1 ≤ c ∧ Kd.C kRg w A l.length l := by
  obtain ⟨A, c, hv, hR⟩ := h
  obtain ⟨_, h1, h2⟩ := Kd.R_reads' hR
  refine ⟨A, c, hv, h1, rfl, ?_, fun hp => ?_⟩
  · have := h2.2.1
    rw [List.length_append] at this
    simp at this
    omega
  · obtain ⟨ad, rfl, h3⟩ := h2.2.2 (by simp)
    refine ⟨ad, rfl, fun j p hj => h3 j p ?_⟩
    rw [List.getElem?_append_left (List.getElem?_eq_some_iff.1 hj).1]
    exact hj
set_option maxHeartbeats 1000000 in
theorem lend_any (A0 : Option Addr) (c0 : Nat) (l : List (Int × Int)) (w : World) (hC : Kd.C kRg w A0 l.length l) (hn : l.length ≤ 100000) :
    Calls Try.prog 16 #[.slice A0 l.length c0] w (fun e w' => ∃ v, e = .returned v ∧ Lent w' w.heap.size v l ∧ Below w.heap.size w w') := by
  have HC := Aside0.mk hC
  clear hC
  have HB0 := Aside0.mk (Below.refl w.heap.size w)
  obtain ⟨i0, hi, hzz⟩ := Option.map_eq_some_iff.1 info_rg
  simp only [Prod.mk.injEq] at hzz
  have HI := Aside0.mk hi
  have HZ := Aside0.mk hzz
  clear hi hzz
  obtain ⟨n, hln⟩ : ∃ n, n = l.length := ⟨_, rfl⟩
  rw [← hln]
  have HL := Aside0.mk hln
  rw [← hln] at HC hn
  clear hln
  go_enter Try.func16, Try.ntmps16
  go_wp2_with (first | (at_make; refine wpList_make_own _ rfl _ _ 29 rfl w.heap.size 41 i0 (.agg #[(.int .i64 0), (.int .i64 0)]) 2 Try.underlying29 HI.out HZ.out.1 HZ.out.2.1 _ _ _ (n + 1) rfl rfl ?c1 ?c2 ?c3 (Nat.le_refl _) ?_; (case c1 => omega); (case c2 => rw [HZ.out.2.2]; omega); (case c3 => unfold maxLen; omega); intro w1 ho hg; have HR1 := Aside0.mk (show Kd.R kRg 41 w1 w.heap.size (fun _ => True) (.slice (some ⟨w.heap.size, 0, none⟩) 0 (n + 1)) [] from (fixed_R kRg_fixed).2 ⟨fun _ _ => trivial, ho⟩); have HB1 := Aside0.mk (Below.grown HB0.out hg (Nat.le_refl _) (fun k hk => by cases hk)); clear ho hg) | (at_builtin; refine Kd.R_append_rows kRg (Rr := kRg.K w1) (w0 := w) w.heap.size rfl (.tmp 6) (.tmp 7) 29 41 (.agg #[(.int .i64 0), (.int .i64 0)]) 16 rfl Try.underlying29 info_rg rfl (by decide) (by omega) _ [] l A0 _ _ (fun _ => True) (fun _ => False) rfl rfl HR1.out ?aR (fun x cs h => by rw [kRg_K h]; exact kRg_fixed.make _ _ _ x) (fun _ h => h.elim) ?aF HB1.out HB1.out.size ?aL ?_; (case aR => exact Kd.C_below HC.out HB1.out); (case aF => exact fun _ _ => trivial); (case aL => (try simp only [List.length_nil, Nat.zero_add]); omega); intro v2 w2 ho hb hg hat; have HR2 := Aside0.mk ho; have HB2 := Aside0.mk hb; clear ho hb hg hat) | (at_builtin; refine Kd.R_append kRg (w0 := w) (W := w2) w.heap.size rfl (.tmp 8) (.tmp 10) 29 41 (.agg #[(.int .i64 0), (.int .i64 0)]) 16 rfl Try.underlying29 info_rg rfl (by decide) (by omega) v2 ([] ++ l) (7, 0) [.int .i64 7, .int .i64 0] (fun _ => True) (fun _ => False) rfl ?bX ?bP (fun _ hk => hk.elim) ?bF HR2.out HB2.out HB2.out.size ?bL ?_; (case bX => (first | rfl | (simp [Act.eval]; done) | (simp [Act.eval] <;> rfl))); (case bP => exact kRg_fixed.make _ _ _ ((7, 0) : Int × Int)); (case bF => exact fun _ _ => trivial); (case bL => have := HL.out; simp; omega); intro v3 w3 ho hb hg hat; obtain ⟨g3, c3, e3, hg0, hg1, hcells⟩ := Kd.R_form ho (by simp); have hlen : ([] ++ l ++ [((7, 0) : Int × Int)]).length = n + 1 := (by have := HL.out; simp; omega); rw [hlen] at e3; clear hlen; subst e3; have hle : n + 1 ≤ c3 := (Kd.R_reads' ho).2.1; have HR3 := Aside0.mk ho; have HB3 := Aside0.mk hb; clear ho hb hg hat hg0 hg1 hcells))
  go_ret
  refine ⟨_, rfl, ⟨some ⟨g3, 0, none⟩, c3, by rw [← HL.out]; rfl, ?_⟩, HB3.out⟩
  have h := HR3.out
  rw [HL.out] at h
  exact h
set_option maxHeartbeats 1000000 in
theorem kept_any (l : List (Int × Int)) (w : World) (base : Nat) (v : Value) (A0 : Option Addr) (c0 : Nat)
    (hS : ∀ (A : Option Addr) (c : Nat), Kd.C kRg w A l.length l → l.length ≤ c → Calls Try.prog 25 #[.slice A l.length c, .slice A0 l.length c0] w (fun e w' => e = .returned (.bool true) ∧ Below w.heap.size w w'))
    (hL : Lent w base v l) (hn : l.length ≤ 100000) :
    Calls Try.prog 21 #[v, .slice A0 l.length c0] w (fun e w' => e = .returned (.bool true) ∧ Below w.heap.size w w') := by
  obtain ⟨A1, c1, hv, hc1, hC1⟩ := hL.reads
  obtain ⟨A, c, rfl, hR⟩ := hL
  simp only [Value.slice.injEq] at hv
  obtain ⟨rfl, -, rfl⟩ := hv
  have hcall := hS A c hC1 (by omega)
  obtain ⟨g, c2, hg, -, -, -⟩ := Kd.R_form hR (by simp)
  simp only [Value.slice.injEq] at hg
  obtain ⟨rfl, -, rfl⟩ := hg
  obtain ⟨ad, cs, had, hcl, hK, hcell⟩ := ReadsRow.get_ (Kd.R_reads' hR).2.2 (0, 0) (l.length : Int) (by omega) (by simp; omega)
  obtain rfl := (Option.some.inj had).symm
  have hK' := kRg_K hK
  subst hK'
  have e7 : (l ++ [((7 : Int), (0 : Int))]).getD ((l.length : Int)).toNat (0, 0) = (7, 0) := by simp
  rw [e7] at hcell
  have h0 := hcell 0 (.int .i64 7) rfl
  have h1 := hcell 1 (.int .i64 0) rfl
  rw [Int.toNat_natCast, add_plain] at h0 h1
  simp only [show kRg.sz = 2 from rfl, Nat.add_zero] at h0 h1
  clear hcell hcl hK e7 had hC1 hR
  have HCALL := Aside0.mk hcall
  clear hcall hS
  generalize l.length = n at *
  clear l
  go_enter Try.func21, Try.ntmps21
  go_wp2_with fail
  refine HCALL.out.mono ?_
  rintro e w1 ⟨rfl, hb⟩
  have h0 := pw_cell_below hb h0
  have h1 := pw_cell_below hb h1
  have HB := Aside0.mk hb
  clear hb
  go_wp2
  go_ret
  exact ⟨rfl, HB.out⟩
theorem below_put {base : Nat} {w W : World} (h : Below base w W) {g i : Nat} (hg : base ≤ g) (u : Value) : Below base w (W.setCell ⟨g, i, none⟩ u) := h.setCell hg _
set_option maxHeartbeats 1000000 in
theorem spoil_any (l : List (Int × Int)) (w : World) (base : Nat) (ok : Nat → Prop) (v : Value) (hR : Kd.R kRg 41 w base ok v l) :
    Calls Try.prog 15 #[v] w (fun e w' => e = .returned (.tuple #[]) ∧ Below base w w') := by
  have hB := Below.refl base w
  have hO := ((fixed_R kRg_fixed).1 hR).2
  rw [kRg_sz] at hO
  clear hR
  generalize l.length = n at hO
  rcases hO.2 with ⟨rfl, rfl⟩ | ⟨g, cap, cur, rfl, hg, hh, hle, hmax, hsz, _⟩
  · have HB := Aside0.mk hB
    clear hB
    go_enter Try.func15, Try.ntmps15
    go_wp2
    go_loopg [9] 0 (fun gh s9 wr => s9 = .int .i64 0 ∧ w = wr)
    case atStart => exact ⟨rfl, rfl⟩
    case round =>
      obtain ⟨rfl, rfl⟩ := hrel
      go_wp2
      go_end0
      exact ⟨rfl, HB.out⟩
  · have HB := Aside0.mk hB
    have HH := Aside0.mk (show ∃ cur' : Array Value, cur'.size = cap * 2 ∧ w.heap[g]? = some (.cells cur' 41 (0, 0)) from ⟨cur, hsz, hh⟩)
    have HM := Aside0.mk hmax
    clear hB hh hsz hmax
    go_enter Try.func15, Try.ntmps15
    go_wp2
    go_loopg [9] cap (fun gh s9 wr => ∃ k : Nat, k ≤ cap ∧ cap - k ≤ gh ∧ s9 = .int .i64 k ∧ Aside0 (∃ cur' : Array Value, cur'.size = cap * 2 ∧ wr.heap[g]? = some (.cells cur' 41 (0, 0))) ∧ Aside0 (Below base w wr))
    case atStart => exact ⟨0, by omega, by omega, rfl, HH, HB⟩
    case round =>
      clear HH HB
      obtain ⟨k, hk, hgh, rfl, HH, HB⟩ := hrel
      have hm := HM.out
      unfold maxLen at hm
      by_cases hlt : k < cap
      · obtain ⟨cur', hs', hh'⟩ := HH.out
        have c0 : wr.cell? ⟨g, k * 2, none⟩ = some (cur'[k * 2]'(by omega)) := (blk_cell hh' _).trans (Array.getElem?_eq_getElem _)
        have c1 : wr.cell? ⟨g, k * 2 + 1, none⟩ = some (cur'[k * 2 + 1]'(by omega)) := (blk_cell hh' _).trans (Array.getElem?_eq_getElem _)
        have f0 := blk_frozen hh' (k * 2)
        have f1 := blk_frozen hh' (k * 2 + 1)
        generalize cur'[k * 2]'(by omega) = o0 at c0
        generalize cur'[k * 2 + 1]'(by omega) = o1 at c1
        have HH' := Aside0.mk (And.intro hs' hh')
        clear hs' hh' HH hm
        go_wp2
        have hm := HM.out
        unfold maxLen at hm
        go_roundg (cap - (k + 1))
        case measure => omega
        case rel =>
          obtain ⟨hs', hh'⟩ := HH'.out
          exact ⟨k + 1, by omega, by omega, by rw [show wrap64 ((k : Int) + 1) = ((k + 1 : Nat) : Int) by unfold wrap64; omega], ⟨_, by rw [Array.size_setIfInBounds, Array.size_setIfInBounds]; exact hs', blk_put (blk_put hh' (k * 2) _ rfl) (k * 2 + 1) _ rfl⟩, ⟨below_put (below_put HB.out hg _) hg _⟩⟩
      · go_wp2
        go_end0
        exact ⟨rfl, HB.out⟩
end Go.Proofs.YtoihlfiacnljhaaX
