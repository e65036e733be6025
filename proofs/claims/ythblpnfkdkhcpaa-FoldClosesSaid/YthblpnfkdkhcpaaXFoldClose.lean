import Derived.Test.YthblpnfkdkhcpaaXFoldCaps
namespace Go.Proofs.YthblpnfkdkhcpaaX
open Go.RowKit Go.Proofs.YthblpnfkdkhcpaaW.PrintWords Go.Proofs.YthblpnfkdkhcpaaW.PrintLast Go.Proofs.YthblpnfkdkhcpaaW.PrintMore
set_option linter.unusedVariables false
set_option linter.unusedSimpArgs false
set_option maxHeartbeats 8000000 in
theorem close_any (hN : NormAt normL (fun l => l.length ≤ 900000)) (A : Option Addr) (cl : Nat) (l : List (Int × Int)) (w : World) (h : Kd.C kRg w A l.length l) (hn : l.length ≤ 100000) :
    Calls Try.prog 17 #[.slice A l.length cl] w (BothPost w (closeL l)) := by
  have hW1 : Below w.heap.size w (w.alloc (.cells #[.slice A l.length cl] 29)) := (Below.refl _ w).alloc (Nat.le_refl _) _
  have HCL := Aside0.mk (clone_any A cl l _ (Kd.C_below h hW1) hn)
  have HC := Aside0.mk h
  have HW1 := Aside0.mk hW1
  clear h hW1
  obtain ⟨T, hT⟩ : ∃ T, T = l ++ (capsB 0 ++ capsO 0).flatMap (addF l) := ⟨_, rfl⟩
  have HTL := Aside0.mk (show T.length ≤ 200000 from by
    have hlen : ∀ c : List Int, (c.flatMap (addF l)).length ≤ 15 * c.length := by
      intro c
      induction c with
      | nil => simp
      | cons x t ih =>
        have := addF_small l x
        rw [List.flatMap_cons, List.length_append, List.length_cons]
        omega
    have h1 := hlen (capsB 0 ++ capsO 0)
    have h2 : (capsB 0 ++ capsO 0).length ≤ 140 := by decide +kernel
    rw [hT, List.length_append]
    omega)
  have HT := Aside0.mk hT.symm
  unfold closeL
  rw [← hT]
  have HNT := Aside0.mk (fun (A : Option Addr) (c : Nat) (w : World) (hp : T.length ≤ 900000) (h : Kd.C kRg w A T.length T) (hc : T.length ≤ c) => hN A c T w hp h hc)
  clear hN hT
  go_enter Try.func17, Try.ntmps17
  go_wp2_with fail
  refine HCL.out.mono ?_
  rintro e w1 ⟨v1, rfl, hR1, hb1⟩
  obtain ⟨A1, c1, rfl⟩ := Kd.R_slice hR1
  have HR1 := Aside0.mk hR1
  have HB1 := Aside0.mk hb1
  have hlt : w.heap.size < w1.heap.size := by have := hb1.size; simp at this; omega
  have hne : w.heap.size ≠ w1.heap.size := by omega
  have HLT := Aside0.mk hlt
  clear hR1 hb1 hlt HCL
  go_wp2_with fail
  refine (blocks_any _).mono ?_
  rintro e w2 ⟨rfl, hb2⟩
  have HC2 := Aside0.mk (show Col2 w w1.heap.size (fun k => k = w1.heap.size ∨ k = w.heap.size) w2 l from by
    have hal : Below w1.heap.size w1 (w1.alloc (.cells #[.slice A1 l.length c1] 29)) := (Below.refl _ w1).alloc (Nat.le_refl _) _
    refine Col2.below (W := w1.alloc (.cells #[.slice A1 l.length c1] 29)) ⟨_, heap_alloc_last _ _, ?_, ?_⟩ hb2
    · refine Kd.R_below (w := w1) ?_ hal
      refine Kd.R_lower (Kd.R_mono (Kd.R_bound HR1.out) (fun k hk hs => ?_)) (by simp)
      have h2 := hk.2.1
      have h3 := hk.2.2.1
      simp at h2
      omega
    · exact (HW1.out.trans (HB1.out.mono (by simp))).trans (hal.mono (Nat.le_of_lt HLT.out)))
  have HBX := Aside0.mk (show w2.heap[w.heap.size]? = some (.cells #[.slice A l.length cl] 29 (0, 0)) from by
    have e1 : w1.heap[w.heap.size]? = some (.cells #[.slice A l.length cl] 29 (0, 0)) := (HB1.out.block _ (by simp)).trans (heap_alloc_last _ _)
    have hal : Below w1.heap.size w1 (w1.alloc (.cells #[.slice A1 l.length c1] 29)) := (Below.refl _ w1).alloc (Nat.le_refl _) _
    exact (hb2.block _ (by simp; have := HLT.out; omega)).trans ((hal.block _ HLT.out).trans e1))
  clear hb2 HR1
  have HLL := Aside0.mk (show l.length ≤ 100000 from hn)
  go_wp2_with fail
  go_loopg [14] 7 (fun g s14 wr => ∃ (k : Nat) (acc : List (Int × Int)), k ≤ 7 ∧ 7 - k ≤ g ∧ s14 = .int .i64 k ∧ Aside0 (Col2 w w1.heap.size (fun k => k = w1.heap.size ∨ k = w.heap.size) wr acc) ∧ Aside0 (wr.heap[w.heap.size]? = some (.cells #[.slice A l.length cl] 29 (0, 0))) ∧ Aside0 (acc ++ (capsB k ++ capsO 0).flatMap (addF l) = T))
  case atStart => exact ⟨0, l, by omega, by omega, rfl, HC2, HBX, HT⟩
  case round =>
    obtain ⟨k, acc, hk, hg, rfl, HC2', HX, HA⟩ := hrel
    clear HC2 HBX HT
    by_cases hlt : k < 7
    · have ii := fun w => bi_all hlt w
      have hbk := blkAt_in hlt
      have hcs := capsB_step hlt
      generalize blkAt k = b at ii hbk hcs
      obtain ⟨lo, hi, up⟩ := b
      simp only at ii hbk hcs
      go_wp2
      have hOwr : w1.heap.size < wr.heap.size := by
        obtain ⟨v, h1, h2, h4⟩ := HC2'.out
        exact blk_lt h1
      have hBwr : w.heap.size < wr.heap.size := blk_lt HX.out
      have hal : Below wr.heap.size wr (wr.alloc (.cells #[.int .i64 lo, .int .i64 hi, .int .i64 up] 40)) := (Below.refl _ wr).alloc (Nat.le_refl _) _
      have HC3 := Aside0.mk (show Col2 w w1.heap.size (fun k => (k = w1.heap.size ∨ k = w.heap.size) ∨ k = wr.heap.size) (wr.alloc (.cells #[.int .i64 lo, .int .i64 hi, .int .i64 up] 40)) acc from by
        obtain ⟨v, h1, h2, h4⟩ := HC2'.out
        refine Col2.below (W := wr) ⟨v, h1, Kd.R_mono (Kd.R_bound h2) (fun k hk hs => ?_), h4⟩ hal
        rcases hs with hs | hs
        · exact hk.1 hs
        · have := hk.2.2.1
          omega)
      have HX3 := Aside0.mk ((hal.block _ hBwr).trans HX.out)
      have HD3 := Aside0.mk (show (wr.alloc (.cells #[.int .i64 lo, .int .i64 hi, .int .i64 up] 40)).heap[wr.heap.size]? = some (.cells #[.int .i64 lo, .int .i64 hi, .int .i64 up] 40 (0, 0)) from heap_alloc_last _ _)
      have HA3 := Aside0.mk (show acc ++ ((runL lo hi).flatMap (addF l) ++ (capsB (k + 1) ++ capsO 0).flatMap (addF l)) = T from by
        rw [← HA.out, hcs, List.append_assoc, List.flatMap_append (xs := runL lo hi)])
      have HOW := Aside0.mk hOwr
      clear hal HC2' HX HA hcs ii hOwr hBwr
      obtain ⟨D, hD⟩ : ∃ D, D = wr.heap.size := ⟨_, rfl⟩
      rw [← hD] at HC3 HD3 HOW ⊢
      clear hD
      generalize wr.alloc (.cells #[.int .i64 lo, .int .i64 hi, .int .i64 up] 40) = wi at HC3 HX3 HD3 ⊢
      rw [show decide ((k : Int) < 7) = true from decide_eq_true (by omega)]
      go_loopg [7] (hi + 1 - lo).toNat (fun g s7 wr2 => ∃ (c : Int) (acc2 : List (Int × Int)), lo ≤ c ∧ c ≤ hi + 1 ∧ (hi + 1 - c).toNat ≤ g ∧ s7 = .int .i64 c ∧ Aside0 (Col2 w w1.heap.size (fun k => (k = w1.heap.size ∨ k = w.heap.size) ∨ k = D) wr2 acc2) ∧ Aside0 (wr2.heap[w.heap.size]? = some (.cells #[.slice A l.length cl] 29 (0, 0))) ∧ Aside0 (wr2.heap[D]? = some (.cells #[.int .i64 lo, .int .i64 hi, .int .i64 up] 40 (0, 0))) ∧ Aside0 (acc2 ++ ((runL c hi).flatMap (addF l) ++ (capsB (k + 1) ++ capsO 0).flatMap (addF l)) = T))
      case atStart => exact ⟨lo, acc, by omega, by omega, by omega, rfl, HC3, HX3, HD3, HA3⟩
      case round =>
        clear HC3 HX3 HD3 HA3
        obtain ⟨c, acc2, hc0, hc1, hg2, rfl, HC4, HX4, HD4, HA4⟩ := hrel
        have hcell1 : wr.cell? ⟨D, 1, none⟩ = some (.int .i64 hi) := (blk_cell HD4.out 1).trans rfl
        by_cases hch : c ≤ hi
        · have HADD := Aside0.mk (add_any w w1.heap.size w.heap.size (fun k => (k = w1.heap.size ∨ k = w.heap.size) ∨ k = D) (.inl (.inl rfl)) (Nat.le_of_lt HLT.out) (.inl (.inr rfl)) A cl l HC.out c (by have := fam_small c; omega) acc2 (by
              have h1 := congrArg List.length HA4.out
              have h2 := HTL.out
              rw [List.length_append] at h1
              omega) wr HX4.out (fun k hk => by
              rcases hk with (hk | hk) | hk
              · obtain ⟨v, h1, h2, h4⟩ := HC4.out
                exact hk ▸ blk_lt h1
              · exact hk ▸ blk_lt HX4.out
              · exact hk ▸ blk_lt HD4.out) HC4.out)
          have HRL := Aside0.mk (runL_cons hch)
          generalize runL c hi = rl at HRL HA4
          clear hcell1
          have hcell1 : wr.cell? ⟨D, 1, none⟩ = some (.int .i64 hi) := (blk_cell HD4.out 1).trans rfl
          go_wp2_with fail
          refine HADD.out.mono ?_
          rintro e w4 ⟨rfl, hc4, hk4⟩
          have HC5 := Aside0.mk hc4
          have HK5 := Aside0.mk hk4
          clear hc4 hk4 HADD
          go_wp2
          go_roundg (hi + 1 - (c + 1)).toNat
          case measure => omega
          case rel =>
            refine ⟨c + 1, acc2 ++ addF l c, by omega, by omega, by omega, rfl, HC5, ⟨?_⟩, ⟨?_⟩, ⟨?_⟩⟩
            · exact (HK5.out _ (.inl (.inr rfl)) hne).trans HX4.out
            · exact (HK5.out _ (.inr rfl) (by have := HOW.out; omega)).trans HD4.out
            · rw [← HA4.out, HRL.out, List.flatMap_cons, List.append_assoc, List.append_assoc]
        · have HRL := Aside0.mk (runL_nil (show hi < c by omega))
          generalize runL c hi = rl at HRL HA4
          go_wp2
          go_roundg (6 - k)
          case measure => omega
          case rel =>
            refine ⟨k + 1, acc2, by omega, by omega, rfl, ⟨?_⟩, HX4, ⟨?_⟩⟩
            · obtain ⟨v, h1, h2, h4⟩ := HC4.out
              exact ⟨v, h1, Kd.R_mono h2 (fun k hk hs => hk (.inl hs)), h4⟩
            · rw [← HA4.out, HRL.out, List.flatMap_nil, List.nil_append]
    · have hk7 : k = 7 := by omega
      subst hk7
      have HA1 := Aside0.mk (show acc ++ (capsO 0).flatMap (addF l) = T from HA.out)
      clear HA
      go_wp2_with fail
      refine (others_any _).mono ?_
      rintro e w3 ⟨rfl, hb3⟩
      have HC3 := Aside0.mk (HC2'.out.below hb3)
      have HX3 := Aside0.mk ((hb3.block _ (blk_lt HX.out)).trans HX.out)
      clear hb3 HC2' HX
      go_wp2_with fail
      go_loopg [30] 7 (fun g s30 wr => ∃ (k : Nat) (acc : List (Int × Int)), k ≤ 7 ∧ 7 - k ≤ g ∧ s30 = .int .i64 k ∧ Aside0 (Col2 w w1.heap.size (fun k => k = w1.heap.size ∨ k = w.heap.size) wr acc) ∧ Aside0 (wr.heap[w.heap.size]? = some (.cells #[.slice A l.length cl] 29 (0, 0))) ∧ Aside0 (acc ++ (capsO k).flatMap (addF l) = T))
      case atStart => exact ⟨0, acc, by omega, by omega, rfl, HC3, HX3, HA1⟩
      case round =>
        clear HC3 HX3 HA1 acc
        obtain ⟨k, acc, hk2, hg2, rfl, HC4, HX4, HA4⟩ := hrel
        by_cases hlt2 : k < 7
        · have ii := fun w => oi_all hlt2 w
          have hcs := capsO_step hlt2
          generalize othAt k = b at ii hcs
          obtain ⟨r, c⟩ := b
          simp only at ii hcs
          have hal : Below wr.heap.size wr (wr.alloc (.cells #[.int .i64 r, .int .i64 c] 44)) := (Below.refl _ wr).alloc (Nat.le_refl _) _
          have HC5 := Aside0.mk (HC4.out.below hal)
          have HX5 := Aside0.mk ((hal.block _ (blk_lt HX4.out)).trans HX4.out)
          have HADD := Aside0.mk (add_any w w1.heap.size w.heap.size (fun k => k = w1.heap.size ∨ k = w.heap.size) (.inl rfl) (Nat.le_of_lt HLT.out) (.inr rfl) A cl l HC.out c (by have := fam_small c; omega) acc (by
              have h1 := congrArg List.length HA4.out
              have h2 := HTL.out
              rw [List.length_append] at h1
              omega) _ HX5.out (fun k hk => by
              rcases hk with hk | hk
              · obtain ⟨v, h1, h2, h4⟩ := HC5.out
                exact hk ▸ blk_lt h1
              · exact hk ▸ blk_lt HX5.out) HC5.out)
          have HA5 := Aside0.mk (show (acc ++ addF l c) ++ (capsO (k + 1)).flatMap (addF l) = T from by rw [← HA4.out, hcs, List.flatMap_cons, List.append_assoc])
          clear hal HC4 HX4 HA4 hcs HC5
          go_wp2_with fail
          refine HADD.out.mono ?_
          rintro e w4 ⟨rfl, hc4, hk4⟩
          have HC6 := Aside0.mk hc4
          have HK6 := Aside0.mk hk4
          clear hc4 hk4 HADD
          go_wp2
          go_roundg (6 - k)
          case measure => omega
          case rel => exact ⟨k + 1, acc ++ addF l c, by omega, by omega, rfl, HC6, ⟨(HK6.out _ (.inr rfl) hne).trans HX5.out⟩, HA5⟩
        · have hk7 : k = 7 := by omega
          subst hk7
          have HA5 := Aside0.mk (show acc = T from (List.append_nil acc).symm.trans HA4.out)
          obtain ⟨v, h1, h2, h4⟩ := HC4.out
          have hT2 := HA5.out
          subst hT2
          obtain ⟨Av, cv, rfl⟩ := Kd.R_slice h2
          have hcellO : wr.cell? ⟨w1.heap.size, 0, none⟩ = some (.slice Av acc.length cv) := (blk_cell h1 0).trans rfl
          have HNC := Aside0.mk (HNT.out Av cv wr (by have := HTL.out; omega) (Kd.R_reads' h2).2.2 (Kd.R_reads' h2).2.1)
          have HB4 := Aside0.mk h4
          clear h1 h2 h4 HC4 HA4 HA5 HNT
          generalize acc.length = nn at *
          go_wp2_with fail
          refine HNC.out.mono ?_
          rintro e w5 ⟨v5, rfl, hR5, hb5⟩
          have HR5 := Aside0.mk hR5
          have HB5 := Aside0.mk hb5
          clear hR5 hb5 HNC
          go_wp2
          go_ret
          exact ⟨v5, rfl, Kd.R_lower HR5.out HB4.out.size, HB4.out.trans (HB5.out.mono HB4.out.size)⟩
end Go.Proofs.YthblpnfkdkhcpaaX
