import Derived.Test.YtnpkfncccddlmaaDoorXRangesBoth
import Derived.Deep.WholeRow
import Derived.Test.YtnpkfncccddlmaaDoorWZeros
namespace Go.Proofs.YtnpkfncccddlmaaDoorX
open Go.RowKit Go.Proofs.YtnpkfncccddlmaaDoorW.PrintWords Go.Proofs.YtnpkfncccddlmaaDoorW.PrintLast Go.Proofs.YtnpkfncccddlmaaDoorW.PrintMore
set_option linter.unusedVariables false
set_option linter.unusedSimpArgs false
/-- slices.Grow of nil. -/
theorem grow_nil (n : Nat) (hn : n ≤ 1000000) (w : World) : Calls Tryd.prog 65 #[.slice none 0 0, .int .i64 n] w (BothPost w []) := by
  rcases Nat.eq_zero_or_pos n with rfl | hp
  · exact (Any8.slices_Grow_room Tryd.lay_growRange none 0 0 0 w (Nat.le_refl _) (by omega) (by omega) (Nat.le_refl _)).mono fun e w' ⟨he, hw⟩ => by
      subst hw
      exact ⟨_, he, Kd.R_nil _ _ _ _ _, Below.refl _ _⟩
  · obtain ⟨i0, hi, hzz⟩ := Option.map_eq_some_iff.1 info_rg
    simp only [Prod.mk.injEq] at hzz
    obtain ⟨hz0, hz1, hz2⟩ := hzz
    refine (Any8.slices_Grow_grow Tryd.lay_growRange i0 (.agg #[(.int .i64 0), (.int .i64 0)]) hi hz0 (by omega) none 0 0 n [] w (Nat.le_refl _) (by omega) (by rw [hz2]; omega) (by omega) (by simp) (fun _ => rfl) (fun a h => by cases h)).mono fun e w' ⟨he, hw⟩ => ?_
    subst hw
    refine ⟨_, he, (fixed_R kRg_fixed).2 ⟨fun _ _ => trivial, rfl, .inr ⟨w.heap.size, _, _, rfl, Nat.le_refl _, heap_alloc_last _ _, Nat.zero_le _, ?_, ?_, rfl⟩⟩, (Below.refl _ w).drew.alloc (Nat.le_refl _) _⟩
    · exact grownCap_le_maxLen _ _ _ _ (by unfold maxLen; omega)
    · have hge := grownCap_ge w (0 + n) 0 (Tryd.lay_growRange_ren.t 25)
      show (_ ++ Builtin.zeroCells #[Value.int .i64 0, .int .i64 0] _ ++ Builtin.zeroCells #[Value.int .i64 0, .int .i64 0] _).size = _ * 2
      rw [Array.size_append, Array.size_append, zeroCells_size, zeroCells_size]
      simp only [Nat.zero_add, Nat.sub_zero] at hge ⊢
      simp
      omega
set_option maxHeartbeats 2000000 in
/-- slices.Concat of two. -/
theorem concat_two (A1 A2 : Option Addr) (c1 c2 : Nat) (l1 l2 : List (Int × Int)) (p : Nat) (tp : TypeId) (w : World) (h1 : Kd.C kRg w A1 l1.length l1) (h2 : Kd.C kRg w A2 l2.length l2)
    (hp : w.heap[p]? = some (.cells #[.slice A1 l1.length c1, .slice A2 l2.length c2] tp (0, 0))) (hn1 : l1.length ≤ 400000) (hn2 : l2.length ≤ 400000) :
    Calls Tryd.prog 39 #[.slice (some ⟨p, 0, none⟩) 2 2] w (BothPost w (l1 ++ l2)) := by
  have H1 := Aside0.mk h1
  have H2 := Aside0.mk h2
  have HP := Aside0.mk hp
  have e0 : w.cell? ⟨p, 0, none⟩ = some (.slice A1 l1.length c1) := by simp [World.cell?, hp]
  have e1 : w.cell? ⟨p, 1, none⟩ = some (.slice A2 l2.length c2) := by simp [World.cell?, hp]
  clear h1 h2 hp
  go_enter Tryd.func39, Tryd.ntmps39
  go_wp2
  go_loopg [3, 11] 2 (fun g s3 s11 wr => ∃ k : Nat, k ≤ 2 ∧ 2 - k ≤ g ∧ s11 = .int .i64 k ∧ Aside0 ((k = 0 ∧ s3 = .int .i64 0) ∨ (k = 1 ∧ s3 = .int .i64 l1.length) ∨ (k = 2 ∧ s3 = .int .i64 (l1.length + l2.length : Nat))) ∧ w = wr)
  case atStart => exact ⟨0, by omega, by omega, rfl, ⟨.inl ⟨rfl, rfl⟩⟩, rfl⟩
  case round =>
    obtain ⟨k, hk, hg, rfl, HS, rfl⟩ := hrel
    rcases HS.out with ⟨rfl, rfl⟩ | ⟨rfl, rfl⟩ | ⟨rfl, rfl⟩
    · clear HS
      go_wp2
      go_roundg 1
      case measure => omega
      case rel => exact ⟨1, by omega, by omega, rfl, ⟨.inr (.inl ⟨rfl, by first | rfl | simp⟩)⟩, rfl⟩
    · clear HS
      go_wp2
      go_roundg 0
      case measure => omega
      case rel => exact ⟨2, by omega, by omega, rfl, ⟨.inr (.inr ⟨rfl, by first | rfl | simp⟩)⟩, rfl⟩
    · clear HS
      have hgrow := grow_nil (l1.length + l2.length) (by omega) w
      have HG := Aside0.mk hgrow
      clear hgrow
      obtain ⟨n, hn⟩ : ∃ n, n = l1.length + l2.length := ⟨_, rfl⟩
      rw [← hn] at HG ⊢
      have HN := Aside0.mk hn
      clear hn
      go_wp2_with fail
      refine HG.out.mono ?_
      rintro e w0 ⟨v0, rfl, hR, hb⟩
      have HR0 := Aside0.mk hR
      have HB0 := Aside0.mk hb
      have hc0 := pw_cell_below hb e0
      have hc1 := pw_cell_below hb e1
      clear hR hb HG
      go_wp2_with fail
      go_loopg [6, 27] 2 (fun g s6 s27 wr => ∃ (k : Nat) (acc : List (Int × Int)), k ≤ 2 ∧ 2 - k ≤ g ∧ s27 = .int .i64 k ∧ Aside0 (Kd.R kRg 42 wr w.heap.size (fun _ => True) s6 acc) ∧ Aside0 (Below w.heap.size w wr) ∧ Aside0 ((k = 0 ∧ acc = []) ∨ (k = 1 ∧ acc = l1) ∨ (k = 2 ∧ acc = l1 ++ l2)))
      case atStart => exact ⟨0, [], by omega, by omega, rfl, HR0, HB0, ⟨.inl ⟨rfl, rfl⟩⟩⟩
      case round =>
        obtain ⟨k, acc, hk, hg2, rfl, HO, HB, HS⟩ := hrel
        clear HR0 HB0 hc0 hc1
        have hc0 := pw_cell_below HB.out e0
        have hc1 := pw_cell_below HB.out e1
        rcases HS.out with ⟨rfl, rfl⟩ | ⟨rfl, rfl⟩ | ⟨rfl, rfl⟩
        · clear HS
          go_wp2_with (at_builtin; refine Kd.R_append_rows kRg (Rr := kRg.K wr) (w0 := w) w.heap.size rfl (.tmp 31) (.tmp 32) 22 42 (.agg #[(.int .i64 0), (.int .i64 0)]) 16 rfl Tryd.underlying22 info_rg rfl (by decide) (by omega) u6 [] l1 A1 _ _ (fun _ => True) (fun _ => False) rfl rfl ?aO ?aR (fun x cs h => by rw [kRg_K h]; exact kRg_fixed.make _ _ _ x) (fun _ h => h.elim) ?aF ?aB ?aS ?aL ?_; (case aO => exact HO.out); (case aR => exact Kd.C_below H1.out HB.out); (case aF => exact fun _ _ => trivial); (case aB => exact HB.out); (case aS => exact HB.out.size); (case aL => (try simp only [List.length_nil, Nat.zero_add]); omega); intro v1 w1 ho hb hg hat; have HO1 := Aside0.mk ho; have HB1 := Aside0.mk hb; clear ho hb hg hat)
          go_roundg 1
          case measure => omega
          case rel => exact ⟨1, l1, by omega, by omega, rfl, HO1, HB1, ⟨.inr (.inl ⟨rfl, rfl⟩)⟩⟩
        · clear HS
          go_wp2_with (at_builtin; refine Kd.R_append_rows kRg (Rr := kRg.K wr) (w0 := w) w.heap.size rfl (.tmp 31) (.tmp 32) 22 42 (.agg #[(.int .i64 0), (.int .i64 0)]) 16 rfl Tryd.underlying22 info_rg rfl (by decide) (by omega) u6 acc l2 A2 _ _ (fun _ => True) (fun _ => False) rfl rfl ?aO ?aR (fun x cs h => by rw [kRg_K h]; exact kRg_fixed.make _ _ _ x) (fun _ h => h.elim) ?aF ?aB ?aS ?aL ?_; (case aO => exact HO.out); (case aR => exact Kd.C_below H2.out HB.out); (case aF => exact fun _ _ => trivial); (case aB => exact HB.out); (case aS => exact HB.out.size); (case aL => (try simp only [List.length_nil, Nat.zero_add]); omega); intro v1 w1 ho hb hg hat; have HO1 := Aside0.mk ho; have HB1 := Aside0.mk hb; clear ho hb hg hat)
          go_roundg 0
          case measure => omega
          case rel => exact ⟨2, acc ++ l2, by omega, by omega, rfl, HO1, HB1, ⟨.inr (.inr ⟨rfl, rfl⟩)⟩⟩
        · clear HS
          go_wp2
          go_ret
          exact ⟨_, rfl, HO.out, HB.out⟩
set_option maxHeartbeats 2000000 in
theorem union_any {nf : List (Int × Int) → List (Int × Int)} {P : List (Int × Int) → Prop} (hN : NormAt nf P) (A1 A2 : Option Addr) (c1 c2 : Nat) (l1 l2 : List (Int × Int)) (w : World) (p12 : P (l1 ++ l2)) (h1 : Kd.C kRg w A1 l1.length l1) (h2 : Kd.C kRg w A2 l2.length l2) (hn1 : l1.length ≤ 400000) (hn2 : l2.length ≤ 400000) :
    Calls Tryd.prog 22 #[.slice A1 l1.length c1, .slice A2 l2.length c2] w (BothPost w (nf (l1 ++ l2))) := by
  have hw0 : Below w.heap.size w (w.alloc (.cells #[.slice A1 l1.length c1, .slice A2 l2.length c2] 22)) := (Below.refl _ w).alloc (Nat.le_refl _) _
  have hc := concat_two A1 A2 c1 c2 l1 l2 w.heap.size 22 (w.alloc (.cells #[.slice A1 l1.length c1, .slice A2 l2.length c2] 22)) (Kd.C_below h1 hw0) (Kd.C_below h2 hw0) (heap_alloc_last _ _) hn1 hn2
  generalize l1 ++ l2 = l12 at hc p12 ⊢
  have HC := Aside0.mk hc
  have HW := Aside0.mk hw0
  clear hc hw0 h1 h2
  go_enter Tryd.func22, Tryd.ntmps22
  go_wp2_with fail
  refine HC.out.mono ?_
  rintro e w1 ⟨v1, rfl, hR1, hb1⟩
  obtain ⟨Av1, cv1, rfl⟩ := Kd.R_slice hR1
  have hB1 := HW.out.trans (hb1.mono HW.out.size)
  have HB1 := Aside0.mk hB1
  have hcall := hN Av1 cv1 l12 w1 p12 (Kd.R_reads' hR1).2.2 (Kd.R_reads' hR1).2.1
  have HN := Aside0.mk hcall
  clear hR1 hb1 hB1 hcall
  go_wp2_with fail
  refine HN.out.mono ?_
  rintro e w2 ⟨v2, rfl, hR2, hb2⟩
  have HR2 := Aside0.mk hR2
  have HB2 := Aside0.mk hb2
  clear hR2 hb2
  go_wp2
  go_ret
  exact ⟨v2, rfl, Kd.R_lower HR2.out HB1.out.size, HB1.out.trans (HB2.out.mono HB1.out.size)⟩
end Go.Proofs.YtnpkfncccddlmaaDoorX
