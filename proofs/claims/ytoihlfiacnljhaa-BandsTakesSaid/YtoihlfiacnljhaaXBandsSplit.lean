import Derived.Test.YtoihlfiacnljhaaXBandsPart
import Derived.Test.YtoihlfiacnljhaaXBandsMath
import Derived.Laws.Rows
namespace Go.Proofs.YtoihlfiacnljhaaX
open Go.RowKit Go.Proofs.YtoihlfiacnljhaaW.PrintWords Go.Proofs.YtoihlfiacnljhaaW.PrintLast Go.Proofs.YtoihlfiacnljhaaW.PrintMore
set_option linter.unusedVariables false
set_option linter.unusedSimpArgs false
def wdV : Array Value := #[.int .i64 0, .int .i64 127, .int .i64 128, .int .i64 2047, .int .i64 2048, .int .i64 55295, .int .i64 57344, .int .i64 65535, .int .i64 65536, .int .i64 1114111]
set_option maxHeartbeats 2000000 in
set_option maxRecDepth 100000 in
theorem widths_any (w : World) : Calls Try.prog 31 #[] w fun e w' => e = .returned (.agg wdV) ∧ Below w.heap.size w w' := by
  have b1 := build_rg 0 127
  have b2 := build_rg 128 2047
  have b3 := build_rg 2048 55295
  have b4 := build_rg 57344 65535
  have b5 := build_rg 65536 1114111
  have b6 : ∀ w, (Instr.build 49 #[(0, .agg #[.int .i64 0, .int .i64 127]), (1, .agg #[.int .i64 128, .int .i64 2047]), (2, .agg #[.int .i64 2048, .int .i64 55295]), (3, .agg #[.int .i64 57344, .int .i64 65535]), (4, .agg #[.int .i64 65536, .int .i64 1114111])]).run Try.prog w = .ok (.agg wdV) w := fun w => run_build w 49 _ _ (by kernel_rfl)
  go_enter Try.func31, Try.ntmps31
  go_wp2_with fail
  exact bodyPost_ret (results_cell_row rfl _ _ w.heap.size 49 wdV (0, 0) _ rfl (heap_alloc_last w _) Try.underlying49 rfl (by kernel_rfl)) rfl ⟨rfl, (Below.refl _ w).alloc (Nat.le_refl _) _⟩
theorem cutW_len (lo hi : Int) (k : Nat) (hk : k < 5) : (cutW lo hi (wds[k]'hk)).length ≤ 1114112 := by
  unfold cutW
  have hr : 0 ≤ (wds[k]'hk).2.1 ∧ (wds[k]'hk).2.2 ≤ 1114111 := by
    match k, hk with
    | 0, _ => simp [wds]
    | 1, _ => simp [wds]
    | 2, _ => simp [wds]
    | 3, _ => simp [wds]
    | 4, _ => simp [wds]
  split
  · rename_i h
    have := partL_len (wds[k]'hk).1 _ _ _ (Nat.le_refl (min hi (wds[k]'hk).2.2 - max lo (wds[k]'hk).2.1).toNat)
    omega
  · simp
theorem idx_wd0 (w : World) : (Instr.index 49 (.agg wdV) (.int .i64 0)).run Try.prog w = .ok (.agg #[.int .i64 0, .int .i64 127]) w := by kernel_rfl
theorem idx_wd1 (w : World) : (Instr.index 49 (.agg wdV) (.int .i64 1)).run Try.prog w = .ok (.agg #[.int .i64 128, .int .i64 2047]) w := by kernel_rfl
theorem idx_wd2 (w : World) : (Instr.index 49 (.agg wdV) (.int .i64 2)).run Try.prog w = .ok (.agg #[.int .i64 2048, .int .i64 55295]) w := by kernel_rfl
theorem idx_wd3 (w : World) : (Instr.index 49 (.agg wdV) (.int .i64 3)).run Try.prog w = .ok (.agg #[.int .i64 57344, .int .i64 65535]) w := by kernel_rfl
theorem idx_wd4 (w : World) : (Instr.index 49 (.agg wdV) (.int .i64 4)).run Try.prog w = .ok (.agg #[.int .i64 65536, .int .i64 1114111]) w := by kernel_rfl
theorem idx_wd (k : Nat) (hk : k < 5) (w : World) : (Instr.index 49 (.agg wdV) (.int .i64 k)).run Try.prog w = .ok (.agg #[.int .i64 (wds[k]'hk).2.1, .int .i64 (wds[k]'hk).2.2]) w := by
  match k, hk with
  | 0, _ => exact idx_wd0 w
  | 1, _ => exact idx_wd1 w
  | 2, _ => exact idx_wd2 w
  | 3, _ => exact idx_wd3 w
  | 4, _ => exact idx_wd4 w
theorem wd_in (k : Nat) (hk : k < 5) : 0 ≤ (wds[k]'hk).2.1 ∧ (wds[k]'hk).2.2 ≤ 1114111 := by
  match k, hk with
  | 0, _ => simp [wds]
  | 1, _ => simp [wds]
  | 2, _ => simp [wds]
  | 3, _ => simp [wds]
  | 4, _ => simp [wds]
theorem take_wd (lo hi : Int) (k : Nat) (hk : k < 5) : (wds.take (k + 1)).flatMap (cutW lo hi) = (wds.take k).flatMap (cutW lo hi) ++ cutW lo hi (wds[k]'hk) := by
  rw [List.take_succ_eq_append_getElem hk, List.flatMap_append]
  simp
set_option maxHeartbeats 8000000 in
set_option maxRecDepth 100000 in
attribute [local go_sem] max2_int min2_int in
theorem split_any (lo hi : Int) (w : World) : Calls Try.prog 17 #[.int .i64 lo, .int .i64 hi] w fun e w' => ∃ v, e = .returned v ∧ Kd.S kSeqs 29 w' w.heap.size (fun _ => True) v (splitL lo hi) ∧ Below w.heap.size w w' := by
  have HW := Aside0.mk (widths_any w)
  go_enter Try.func17, Try.ntmps17
  go_wp2_with fail
  refine HW.out.mono ?_
  rintro e w1 ⟨rfl, hb1⟩
  have HB1 := Aside0.mk hb1
  clear hb1 HW
  go_wp2_with fail
  have HIX := Aside0.mk idx_wd
  generalize Value.agg wdV = WA at HIX ⊢
  have HS := Aside0.mk (SeqsAt.refl (base := w.heap.size) (w := w1) (v := .slice none 0 0) (ls := (wds.take 0).flatMap (cutW lo hi)) (Kd.S_nil _ _ _ _ _))
  go_loopg [5, 11] 5 (fun g s5 s11 wr => ∃ (k : Nat) (A : Option Addr) (c na : Nat) (acc : List (List (Int × Int))), k ≤ 5 ∧ 5 - k ≤ g ∧ s5 = .slice A na c ∧ s11 = .int .i64 k ∧ Aside0 (na = acc.length) ∧ Aside0 (acc = (wds.take k).flatMap (cutW lo hi)) ∧ na ≤ k * 1114112 ∧ Aside0 (SeqsAt w.heap.size w1 (.slice none 0 0) wr (.slice A na c) acc))
  case atStart => exact ⟨0, none, 0, 0, [], by omega, by omega, rfl, rfl, ⟨rfl⟩, ⟨rfl⟩, by omega, HS⟩
  case round =>
    clear HS
    obtain ⟨k, A, c, na, acc, hk, hg, rfl, rfl, HNA, HAC, hna, HS⟩ := hrel
    by_cases hlt : k < 5
    · have hix := HIX.out k hlt
      have HT := Aside0.mk (take_wd lo hi k hlt)
      have HO := Aside0.mk (oneW_cut lo hi k hlt)
      have HCL := Aside0.mk (cutW_len lo hi k hlt)
      have HCU := Aside0.mk (show cutW lo hi (wds[k]'hlt) = if max lo (wds[k]'hlt).2.1 ≤ min hi (wds[k]'hlt).2.2 then partL (wds[k]'hlt).1 (max lo (wds[k]'hlt).2.1) (min hi (wds[k]'hlt).2.2) else [] from rfl)
      have hdr : (min hi (wds[k]'hlt).2.2 - max lo (wds[k]'hlt).2.1).toNat ≤ 1114111 := by
        have hr := wd_in k hlt
        omega
      rw [← HAC.out] at HT
      generalize cutW lo hi (wds[k]'hlt) = cu at HT HCL HCU
      generalize (wds[k]'hlt).2.1 = a at hix HO HCU hdr
      generalize (wds[k]'hlt).2.2 = b at hix HO HCU hdr
      generalize (wds[k]'hlt).1 = n at HO HCU
      go_wp2_with fail
      have hl := heap_alloc_last wr (.cells #[.int .i64 a, .int .i64 b] 41)
      have HS2 := Aside0.mk (HS.out.step ((Below.refl _ wr).alloc (Nat.le_refl _) (.cells #[.int .i64 a, .int .i64 b] 41)) HB1.out.size)
      have x0 : (wr.alloc (.cells #[.int .i64 a, .int .i64 b] 41)).cell? ⟨wr.heap.size, 0, none⟩ = some (.int .i64 a) := (blk_cell hl 0).trans rfl
      have x1 : (wr.alloc (.cells #[.int .i64 a, .int .i64 b] 41)).cell? ⟨wr.heap.size, 1, none⟩ = some (.int .i64 b) := (blk_cell hl 1).trans rfl
      clear hl HS
      generalize wr.alloc (.cells #[.int .i64 a, .int .i64 b] 41) = w2 at HS2 x0 x1 ⊢
      go_quiet (fail)
      have HS3 := Aside0.mk (HS2.out.step (pw_below_drewN (Below.refl _ w2) nq) HB1.out.size)
      clear HS2 x0 x1
      generalize w2.drewN nq = w3 at HS3 ⊢
      by_cases hc : max lo a ≤ min hi b
      · rw [if_pos hc] at HCU
        have hna2 : acc.length + (min hi b - max lo a).toNat ≤ 10000000 := by have := HNA.out; omega
        go_wp2_with fail
        refine (part_any n w.heap.size _ _ _ acc (.slice A na c) w3 (Nat.le_refl _) (HO.out hc) (Nat.le_trans HB1.out.size HS3.out.below.size) hna2 HS3.out.row).mono ?_
        rintro e w4 ⟨v4, rfl, hR4⟩
        obtain ⟨A4, c4, rfl⟩ := Kd.S_slice hR4.row
        have HR4 := Aside0.mk (HS3.out.trans hR4)
        have HT4 := Aside0.mk (show (acc ++ partL n (max lo a) (min hi b)) = (wds.take (k + 1)).flatMap (cutW lo hi) by rw [HT.out, HCU.out])
        have HL4 := Aside0.mk (show (acc ++ partL n (max lo a) (min hi b)).length ≤ (k + 1) * 1114112 by rw [List.length_append, ← HCU.out]; have := HCL.out; have := HNA.out; omega)
        clear hR4 HS3 HT HCU HO
        generalize acc ++ partL n (max lo a) (min hi b) = ac at HR4 HT4 HL4 ⊢
        obtain ⟨n4, hn4⟩ : ∃ n4, n4 = ac.length := ⟨_, rfl⟩
        have HN4 := Aside0.mk hn4
        rw [← hn4] at HR4 HL4 ⊢
        clear hn4
        go_wp2_with fail
        go_roundg (5 - (k + 1))
        case measure => omega
        case rel => exact ⟨k + 1, A4, c4, n4, ac, by omega, by omega, rfl, rfl, HN4, HT4, HL4.out, HR4⟩
      · rw [if_neg hc] at HCU
        have hna3 : na ≤ (k + 1) * 1114112 := Nat.le_trans hna (Nat.mul_le_mul_right _ (Nat.le_succ k))
        have HT4 := Aside0.mk (show acc = (wds.take (k + 1)).flatMap (cutW lo hi) by rw [HT.out, HCU.out, List.append_nil])
        clear HT HCU HO
        go_wp2_with fail
        go_roundg (5 - (k + 1))
        case measure => omega
        case rel => exact ⟨k + 1, A, c, na, acc, by omega, by omega, rfl, rfl, HNA, HT4, hna3, HS3⟩
    · obtain rfl : k = 5 := by omega
      go_wp2_with fail
      go_ret
      have hs := HS.out.row
      have e : acc = splitL lo hi := HAC.out
      rw [e] at hs
      exact ⟨_, rfl, hs, HB1.out.trans HS.out.below⟩
end Go.Proofs.YtoihlfiacnljhaaX
