/- CacheFlushes: of unlike keys each full load flushes the cache once; no condition. -/
import Derived.Test.YtcijpncjdccbbaaXCacheWorks
import Derived.Deep.RegionHeld3
import Derived.IntWalk
namespace Go.Proofs.Ytcijpncjdccbbaa.Pure
open Go.ChangeMaps Go.MapKept Go.RowKit Go.Proofs.YtcijpncjdccbbaaW.PrintWords Go.Proofs.YtcijpncjdccbbaaW.PrintLast Go.Proofs.YtcijpncjdccbbaaW.PrintMore
open Go.Proofs.YtcijpncjdccbbaaX
set_option linter.unusedVariables false
set_option linter.unusedSimpArgs false
def keyN (j : Nat) : ByteArray := strOfNums [(j : Int), 107]
def thN (j : Nat) : ThI := ⟨keyN j, j, fun _ => (0, false, false)⟩
def tsN (m q r : Nat) : List ThI := (List.range r).map (fun j => thN (q * m + j))
theorem key_size (j : Nat) : (keyN j).size ≤ maxLen := by
  have : (keyN j).size = 2 := by simp [keyN, strOfNums, ByteArray.size]
  rw [this]; decide
theorem key_ne {i j : Nat} (hi : i < 200) (hj : j < 200) (h : i ≠ j) : keyN i ≠ keyN j := fun e => by
  simp [keyN, strOfNums] at e
  have := congrArg UInt8.toNat e
  simp at this
  omega
theorem key_conv (k : Nat) (wr : World) : (convert 27 9 (.slice (some ⟨wr.heap.size, 0, none⟩) 2 2)).run Try.prog (wr.alloc (.cells #[.int .u8 k, .int .u8 107] 5)) = .ok (.string (keyN k)) (wr.alloc (.cells #[.int .u8 k, .int .u8 107] 5)) := by
  refine Kd.C_string (xs := [(k : Int), 107]) Try.underlying27 Try.underlying5 Try.underlying9 ⟨rfl, by decide, fun _ => ⟨⟨wr.heap.size, 0, none⟩, rfl, ?_⟩⟩
  intro j p hj
  refine ⟨[.int .u8 p], rfl, rfl, fun i u hi => ?_⟩
  have hh := heap_alloc_at wr (.cells #[.int .u8 k, .int .u8 107] 5)
  match i, hi with
  | 0, hi =>
    simp at hi
    subst hi
    match j, hj with
    | 0, hj =>
      simp at hj
      subst hj
      exact (blk_cell hh 0).trans rfl
    | 1, hj =>
      simp at hj
      subst hj
      exact (blk_cell hh 1).trans rfl
    | j + 2, hj => simp at hj
  | i + 1, hi => simp at hi
theorem ts_step {m q r k : Nat} (h : k = q * m + r) : tsN m q r ++ [⟨keyN k, (k : Int), fun _ => (0, false, false)⟩] = tsN m q (r + 1) := by
  unfold tsN
  rw [List.range_succ, List.map_append]
  subst h
  rfl
theorem ts_new {m q r k : Nat} (h : k = q * m + r) (hk : k < 200) : ∀ t ∈ tsN m q r, t.key ≠ keyN k := by
  intro t ht
  obtain ⟨j, hj, rfl⟩ := List.mem_map.1 ht
  rw [List.mem_range] at hj
  exact key_ne (by omega) hk (by omega)
theorem stands_last {m q r k : Nat} (h : k = q * m + r) : Stands (tsN m q (r + 1)) (keyN k) r := by
  refine .inl ⟨r, by simp [tsN], ?_, rfl⟩
  simp [tsN, thN, h]
theorem q_le {m q r k : Nat} (hm : 1 ≤ m) (h : k = q * m + r) : q ≤ k := by
  have := Nat.le_mul_of_pos_right q (show 0 < m by omega)
  omega
theorem tm_at {m q r k : Nat} (h : k = q * m + r) (hr : r < m) : Int.tmod (k : Int) (m : Int) = r := by
  rw [h, ← Int.ofNat_tmod, Nat.mul_comm, Nat.mul_add_mod, Nat.mod_eq_of_lt hr]
theorem td_at {m q r k : Nat} (h : k = q * m + r) (hr : r < m) : Int.tdiv (k : Int) (m : Int) = q := by
  rw [h, ← Int.ofNat_tdiv, Nat.mul_comm, Nat.mul_add_div (by omega), Nat.div_eq_of_lt hr, Nat.add_zero]
theorem put_step {m q r k base C : Nat} (hm1 : 1 ≤ m) (hm2 : m ≤ 50) (hk : k < 200) (h : k = q * m + r) (hr : r ≤ m) (hq : q = 0 ∨ 1 ≤ r) :
    ∃ q2 r2 : Nat, k = q2 * m + r2 ∧ r2 < m ∧ ∀ W : World, CacheI W base C m q (tsN m q r) → base ≤ W.heap.size →
      Calls Try.prog 8 #[.pointer (some ⟨C, 0, none⟩), .string (keyN k), .int .i64 k] W fun e w' => e = .returned (.int .i64 r2) ∧ CacheI w' base C m q2 (tsN m q2 (r2 + 1)) ∧ Below base W w' := by
  by_cases hlt : r < m
  · refine ⟨q, r, h, hlt, fun W hc hb => ?_⟩
    refine (putI_new W base C m q (tsN m q r) r (by simp [tsN]) hc hb (by omega) (keyN k) (key_size k) (ts_new h hk) (by omega) k).mono fun e w' ⟨he, hc', hb'⟩ => ⟨he, ?_, hb'⟩
    rw [← ts_step h]
    exact hc'
  · have e : r = m := by omega
    subst e
    have hq2 := q_le hm1 h
    have h2 : k = (q + 1) * r + 0 := by rw [h, Nat.add_mul]; omega
    refine ⟨q + 1, 0, h2, by omega, fun W hc hb => ?_⟩
    refine (putI_full W base C r q (tsN r q r) r (by simp [tsN]) hc hb (by omega) (keyN k) (key_size k) (ts_new h hk) rfl (by omega) (by omega) k).mono fun e w' ⟨he, hc', hb'⟩ => ⟨he, ?_, hb'⟩
    rw [← ts_step h2]
    exact hc'
set_option maxHeartbeats 4000000 in
theorem CacheFlushes_walk (most many : Int) (w : World) :
    Calls Try.prog 3 #[.int .i64 most, .int .i64 many] w (fun e w' => e = .returned (.bool true) ∧ Below w.heap.size w w') := by
  have HW := Aside0.mk (works_any w)
  by_cases hbad : most < 1 ∨ most > 50 ∨ many < 0 ∨ many > 200
  · by_cases h1 : most < 1
    · clear hbad
      go_enter Try.func3, Try.ntmps3
      go_wp2_with fail
      refine HW.out.mono ?_
      rintro e w0 ⟨rfl, hb0⟩
      go_wp2
      go_ret
      exact ⟨rfl, hb0⟩
    · by_cases h2 : 50 < most
      · clear hbad
        go_enter Try.func3, Try.ntmps3
        go_wp2_with fail
        refine HW.out.mono ?_
        rintro e w0 ⟨rfl, hb0⟩
        go_wp2
        go_ret
        exact ⟨rfl, hb0⟩
      · by_cases h3 : many < 0
        · go_enter Try.func3, Try.ntmps3
          go_wp2_with fail
          refine HW.out.mono ?_
          rintro e w0 ⟨rfl, hb0⟩
          go_wp2
          go_ret
          exact ⟨rfl, hb0⟩
        · have h4 : 200 < many := by omega
          clear hbad
          go_enter Try.func3, Try.ntmps3
          go_wp2_with fail
          refine HW.out.mono ?_
          rintro e w0 ⟨rfl, hb0⟩
          go_wp2
          go_ret
          exact ⟨rfl, hb0⟩
  · obtain ⟨m, rfl⟩ : ∃ m : Nat, most = m := ⟨most.toNat, by omega⟩
    obtain ⟨N, rfl⟩ : ∃ N : Nat, many = N := ⟨many.toNat, by omega⟩
    have hm1 : 1 ≤ m := by omega
    have hm2 : m ≤ 50 := by omega
    have hN : N ≤ 200 := by omega
    clear hbad
    go_enter Try.func3, Try.ntmps3
    go_wp2_with fail
    refine HW.out.mono ?_
    rintro e w0 ⟨rfl, hb0⟩
    have HB0 := Aside0.mk hb0
    clear hb0 HW
    go_wp2_with fail
    refine (newI m (by omega) (by omega) w0).mono ?_
    rintro e w1 ⟨C, rfl, hC1, hb1⟩
    have HC1 := Aside0.mk hC1
    have HB1 := Aside0.mk hb1
    clear hC1 hb1
    go_wp2_with fail
    go_loopg [38] N (fun g s38 wr => ∃ k q r : Nat, k ≤ N ∧ N - k ≤ g ∧ s38 = .int .i64 k ∧ Aside0 (k = q * m + r ∧ r ≤ m ∧ (q = 0 ∨ 1 ≤ r)) ∧ Aside0 (CacheI wr w0.heap.size C m q (tsN m q r)) ∧ Aside0 (Below w0.heap.size w0 wr))
    case atStart => exact ⟨0, 0, 0, by omega, by omega, rfl, ⟨by omega, by omega, .inl rfl⟩, HC1, HB1⟩
    case round =>
      clear HC1 HB1
      obtain ⟨k, q, r, hk, hg, rfl, HQ, HC, HB⟩ := hrel
      by_cases hlt : k < N
      · have hcv := key_conv k wr
        have hal : Below wr.heap.size wr (wr.alloc (.cells #[.int .u8 k, .int .u8 107] 5)) := (Below.refl _ wr).alloc (Nat.le_refl _) _
        have HC1 := Aside0.mk (HC.out.below hal)
        have HB1 := Aside0.mk (HB.out.trans (hal.mono HB.out.size))
        clear hal HC HB
        go_wp2_with fail
        clear hcv
        generalize wr.alloc (.cells #[.int .u8 k, .int .u8 107] 5) = wx at HC1 HB1 ⊢
        have hdw := (Below.refl wx.heap.size wx).drew
        have HCd := Aside0.mk (HC1.out.below hdw)
        have HBd := Aside0.mk (HB1.out.trans (hdw.mono HB1.out.size))
        obtain ⟨q2, r2, hk2, hr2, hP⟩ := put_step (C := C) (base := w0.heap.size) hm1 hm2 (show k < 200 by omega) HQ.out.1 HQ.out.2.1 HQ.out.2.2
        have HP1 := Aside0.mk hP
        have HK2 := Aside0.mk hk2
        clear hk2 hP
        have htm : Int.tmod (k : Int) (m : Int) = r2 := tm_at HK2.out hr2
        have htd : Int.tdiv (k : Int) (m : Int) = q2 := td_at HK2.out hr2
        have hw1 : IntKind.i64.wrap ((r2 : Int) + 1) = (r2 : Int) + 1 := IntWalk.i64_in _ (by omega)
        have hwr : IntKind.i64.wrap (r2 : Int) = (r2 : Int) := IntWalk.i64_in _ (by omega)
        have hwq : IntKind.i64.wrap (q2 : Int) = (q2 : Int) := IntWalk.i64_in _ (by have := q_le hm1 HK2.out; omega)
        have hm0 : ¬ m = 0 := by omega
        have HL := Aside0.mk (fun (W : World) (h : CacheI W w0.heap.size C m q2 (tsN m q2 (r2 + 1))) => (show ((tsN m q2 (r2 + 1)).length : Int) = (r2 : Int) + 1 by simp [tsN]) ▸ lenI W _ _ _ _ _ h)
        clear HC1 HB1 hdw
        go_region_held3 (fun _ => True) (first | exact trivial) (first | ((go_at_call 8; refine (HP1.out _ HCd.out HBd.out.size).mono ?_; rintro e w2 ⟨rfl, hC2, hb2⟩; have HC2 := Aside0.mk (show CacheI w2 w0.heap.size C m q2 (tsN m q2 (r2 + 1)) from hC2); have HB2 := Aside0.mk (HBd.out.trans hb2); clear hC2 hb2 HCd HBd)) | ((go_at_call 8; refine (putI_hit _ _ _ _ _ _ HC2.out (keyN k) (key_size k) r2 (stands_last HK2.out) (by omega) (-1)).mono ?_; rintro e w3 ⟨rfl, hb3⟩; have HC3 := Aside0.mk (HC2.out.below hb3); have HB3 := Aside0.mk (HB2.out.trans (hb3.mono HB2.out.size)); clear hb3 HC2 HB2)) | ((go_at_call 9; refine (flushesI _ _ _ _ _ _ HC3.out).mono ?_; rintro e w4 ⟨rfl, rfl⟩)) | ((go_at_call 10; refine (HL.out _ HC3.out).mono ?_; rintro e w5 ⟨rfl, rfl⟩)))
        go_wp2_with fail
        refine (getI w5 _ C m q2 _ HC3.out r2 (by simp [tsN]) k (by simp [tsN, thN]; have := HK2.out; omega)).mono ?_
        rintro e w6 ⟨p6, rfl, hp6, hpw, hb6⟩
        have hpc : w6.cell? ⟨p6, 0, none⟩ = some (.int .i64 k) := (blk_cell hp6 0).trans rfl
        have HC6 := Aside0.mk (HC3.out.below hb6)
        have HB6 := Aside0.mk (HB3.out.trans (hb6.mono HB3.out.size))
        clear hb6 HC3 HB3
        go_wp2_with fail
        go_roundg (N - (k + 1))
        case measure => omega
        case rel => exact ⟨k + 1, q2, r2 + 1, by omega, by omega, rfl, ⟨by have := HK2.out; omega, by omega, .inr (by omega)⟩, HC6, HB6⟩
      · go_wp2
        go_ret
        exact ⟨rfl, HB0.out.trans (HB.out.mono HB0.out.size)⟩
end Go.Proofs.Ytcijpncjdccbbaa.Pure
