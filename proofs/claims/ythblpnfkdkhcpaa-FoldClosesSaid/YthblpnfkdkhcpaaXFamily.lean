import Derived.Test.YthblpnfkdkhcpaaXFold
import Derived.Test.YthblpnfkdkhcpaaWKept
import Derived.OwnWalk
namespace Go.Proofs.YthblpnfkdkhcpaaX
open Go.RowKit Go.Proofs.YthblpnfkdkhcpaaW.PrintWords Go.Proofs.YthblpnfkdkhcpaaW.PrintLast Go.Proofs.YthblpnfkdkhcpaaW.PrintMore
set_option linter.unusedVariables false
set_option linter.unusedSimpArgs false
theorem info_int : (Try.prog.info? 3).map (fun i => (i.zero, i.size, i.bytes)) = some (some (.int .i64 0), 1, 8) := by kernel_rfl
def famB : List (Int × Int × Int) → Int → List Int
  | [], _ => []
  | (lo, hi, up) :: t, c => if lo ≤ c ∧ c ≤ hi then (c + up) :: famB t c else famB t c
def famO : List (Int × Int) → Int → List Int
  | [], _ => []
  | (a, b) :: t, c => if b = c then a :: famO t c else famO t c
def fam0 (c : Int) : List Int := c :: (famB blocksL c ++ famO othersL c)
def famF (r : Int) : List Int := (fam0 (capF r)).mergeSort fun x y => decide (x ≤ y)
theorem famB_no {lo hi up c : Int} {t : List (Int × Int × Int)} (h : ¬ (lo ≤ c ∧ c ≤ hi)) : famB ((lo, hi, up) :: t) c = famB t c := if_neg h
theorem famB_yes {lo hi up c : Int} {t : List (Int × Int × Int)} (h : lo ≤ c ∧ c ≤ hi) : famB ((lo, hi, up) :: t) c = (c + up) :: famB t c := if_pos h
theorem famO_no {a b c : Int} {t : List (Int × Int)} (h : ¬ b = c) : famO ((a, b) :: t) c = famO t c := if_neg h
theorem famO_yes {a b c : Int} {t : List (Int × Int)} (h : b = c) : famO ((a, b) :: t) c = a :: famO t c := if_pos h
theorem R_single (W : World) (base e : Nat) (c : Int) (h : base ≤ W.heap.size) : Kd.R (Kd.int .i64) e (W.alloc (.cells #[.int .i64 c] e)) base (fun _ => True) (.slice (some ⟨W.heap.size, 0, none⟩) 1 1) [c] :=
  (fixed_R (fixed_int .i64)).2 ⟨fun _ _ => trivial, rfl, .inr ⟨W.heap.size, 1, #[.int .i64 c], rfl, h, heap_alloc_last _ _, Nat.le_refl _, by decide, rfl, rfl⟩⟩
def FamPost (w : World) (l : List Int) (e : Ending) (w' : World) : Prop := ∃ v0_ : Value, e = .returned v0_ ∧ Kd.R (Kd.int .i64) 3 w' w.heap.size (fun _ => True) v0_ l ∧ Below w.heap.size w w'
set_option maxHeartbeats 4000000 in
theorem family_any (r : Int) (w : World) : Calls Try.prog 9 #[.int .i64 r] w (FamPost w (famF r)) := by
  obtain ⟨c, hc⟩ : ∃ c, capF r = c := ⟨_, rfl⟩
  have hcap := capital_any r w
  unfold famF
  rw [hc] at hcap ⊢
  have HT : Aside0 (∀ l, l = fam0 c → (l.mergeSort fun x y => decide (x ≤ y)) = ((fam0 c).mergeSort fun x y => decide (x ≤ y))) := ⟨fun l h => by rw [h]⟩
  have HF : Aside0 ([c] ++ (famB (blocksL.drop 0) c ++ famO othersL c) = fam0 c) := ⟨rfl⟩
  clear hc
  generalize ((fam0 c).mergeSort fun x y => decide (x ≤ y)) = S at HT ⊢
  generalize fam0 c = T at HT HF
  go_enter Try.func9, Try.ntmps9
  go_wp2_with (first | (go_at_call 26; refine hcap.mono ?_; rintro e w1 ⟨rfl, hb⟩; have HB1 := Aside0.mk hb; clear hb hcap) | (go_at_call 27; refine (blocks_any _).mono ?_; rintro e w2 ⟨rfl, hb2⟩))
  have HO0 := Aside0.mk (Kd.R_below (R_single w1 w.heap.size 3 c HB1.out.size) hb2)
  have HB0 := Aside0.mk (below_then (below_alloc HB1.out (.cells #[.int .i64 c] 3)) (Nat.le_trans HB1.out.size (by simp)) hb2)
  clear hb2 HB1
  go_loopg [4, 14] 7 (fun g s4 s14 wr => ∃ (k : Nat) (acc : List Int), k ≤ 7 ∧ 7 - k ≤ g ∧ s14 = .int .i64 k ∧ Aside0 (Kd.R (Kd.int .i64) 3 wr w.heap.size (fun _ => True) s4 acc) ∧ Aside0 (Below w.heap.size w wr) ∧ Aside0 (acc ++ (famB (blocksL.drop k) c ++ famO othersL c) = T) ∧ Aside0 (acc.length ≤ 1 + k))
  case atStart => exact ⟨0, [c], by omega, by omega, rfl, HO0, HB0, HF, ⟨by simp⟩⟩
  case round =>
    obtain ⟨k, acc, hk, hgk, rfl, HO, HB, HA, HL⟩ := hrel
    clear HO0 HB0 HF
    have hcase : k = 7 ∨ k = 0 ∨ k = 1 ∨ k = 2 ∨ k = 3 ∨ k = 4 ∨ k = 5 ∨ k = 6 := by omega
    rcases hcase with rfl | rfl | rfl | rfl | rfl | rfl | rfl | rfl
    · go_wp2_with (go_at_call 28; refine (others_any _).mono ?_; rintro e w2 ⟨rfl, hb2⟩)
      have HO0 := Aside0.mk (Kd.R_below HO.out hb2)
      have HB0 := Aside0.mk (below_then HB.out HB.out.size hb2)
      have HF := Aside0.mk (show acc ++ famO (othersL.drop 0) c = T from HA.out)
      have HL0 := Aside0.mk (show acc.length ≤ 8 + 0 from HL.out)
      clear hb2 HO HB HA HL
      go_loopg [4, 36] 7 (fun g s4 s36 wr => ∃ (k : Nat) (acc : List Int), k ≤ 7 ∧ 7 - k ≤ g ∧ s36 = .int .i64 k ∧ Aside0 (Kd.R (Kd.int .i64) 3 wr w.heap.size (fun _ => True) s4 acc) ∧ Aside0 (Below w.heap.size w wr) ∧ Aside0 (acc ++ famO (othersL.drop k) c = T) ∧ Aside0 (acc.length ≤ 8 + k))
      case atStart => exact ⟨0, acc, by omega, by omega, rfl, HO0, HB0, HF, HL0⟩
      case round =>
        clear HO0 HB0 HF HL0 acc
        obtain ⟨k, acc, hk, hgk2, rfl, HO, HB, HA, HL⟩ := hrel
        have hcase : k = 7 ∨ k = 0 ∨ k = 1 ∨ k = 2 ∨ k = 3 ∨ k = 4 ∨ k = 5 ∨ k = 6 := by omega
        rcases hcase with rfl | rfl | rfl | rfl | rfl | rfl | rfl | rfl
        · have HE := Aside0.mk (HT.out acc ((List.append_nil acc).symm.trans HA.out))
          clear HT HA
          obtain ⟨Ao, co, eo⟩ := Kd.R_slice HO.out
          subst eo
          have hsort := fun W hB hO => sortInts_calls (fun k_ => some k_ = (.slice Ao acc.length co : Value).ownBlock) (.slice Ao acc.length co) acc w W hB hO (by have := HL.out; omega)
          go_wp2_with (go_at_call 29; refine (hsort _ ?hB ?hO).mono ?_; (case hB => exact HB.out); (case hO => exact Kd.R_tight rfl HO.out); rintro e w' ⟨rfl, hR, hB', hK⟩)
          go_ret
          rw [HE.out] at hR
          exact ⟨_, rfl, Kd.R_mono hR (fun _ _ => trivial), hB'⟩
        · have ii := oi0
          by_cases h : (376 : Int) = c
          · subst h
            go_wp2_with (at_builtin; (refine Kd.R_append (Kd.int .i64) (w0 := w) w.heap.size rfl (.tmp 43) (.tmp 46) 23 3 (.int .i64 0) 8 rfl Try.underlying23 info_int rfl (by decide) (by omega) u4 acc (255) [.int .i64 (255)] (fun _ => True) (fun _ => False) rfl ?aX ?aP (fun _ hk => hk.elim) ?aF ?aO ?aB ?aS ?aL ?_); (case aX => (first | rfl | (simp [Act.eval]; done) | (simp [Act.eval] <;> rfl))); (case aP => exact rfl); (case aF => exact fun _ _ => trivial); (case aO => exact (by (with_reducible repeat (first | apply Kd.R_alloc | apply Kd.R_drewN | apply Kd.R_drew)); exact HO.out)); (case aB => exact (by repeat (first | (with_reducible first | exact HB.out | apply below_alloc | apply pw_below_drewN | apply below_drew1) | exact HB.out))); (case aS => exact (below_size (by repeat (first | (with_reducible first | exact HB.out | apply below_alloc | apply pw_below_drewN | apply below_drew1) | exact HB.out)))); (case aL => have := HL.out; omega); intro v1 w1 ho hb hg hat; have n0_ := Aside0.mk ho; have n1_ := Aside0.mk hb; clear HO HB ho hb hg hat; have HO := n0_; have HB := n1_; clear n0_ n1_)
            go_roundg 6
            case measure => omega
            case rel => exact ⟨1, acc ++ [255], by omega, by omega, rfl, ⟨(by (with_reducible repeat (first | apply Kd.R_alloc | apply Kd.R_drewN | apply Kd.R_drew)); exact HO.out)⟩, ⟨(by repeat (first | (with_reducible first | exact HB.out | apply below_alloc | apply pw_below_drewN | apply below_drew1) | exact HB.out))⟩, ⟨by rw [← HA.out]; simp [othersL, famO]⟩, ⟨by have := HL.out; simp; omega⟩⟩
          · have h' : ((376 : Int) == c) = false := by simpa using h
            go_wp2
            go_roundg 6
            case measure => omega
            case rel => exact ⟨1, acc, by omega, by omega, rfl, ⟨(by (with_reducible repeat (first | apply Kd.R_alloc | apply Kd.R_drewN | apply Kd.R_drew)); exact HO.out)⟩, ⟨(by repeat (first | (with_reducible first | exact HB.out | apply below_alloc | apply pw_below_drewN | apply below_drew1) | exact HB.out))⟩, ⟨by rw [← HA.out]; simp [othersL, famO, h]⟩, ⟨by have := HL.out; omega⟩⟩
        · have ii := oi1
          by_cases h : (924 : Int) = c
          · subst h
            go_wp2_with (at_builtin; (refine Kd.R_append (Kd.int .i64) (w0 := w) w.heap.size rfl (.tmp 43) (.tmp 46) 23 3 (.int .i64 0) 8 rfl Try.underlying23 info_int rfl (by decide) (by omega) u4 acc (181) [.int .i64 (181)] (fun _ => True) (fun _ => False) rfl ?aX ?aP (fun _ hk => hk.elim) ?aF ?aO ?aB ?aS ?aL ?_); (case aX => (first | rfl | (simp [Act.eval]; done) | (simp [Act.eval] <;> rfl))); (case aP => exact rfl); (case aF => exact fun _ _ => trivial); (case aO => exact (by (with_reducible repeat (first | apply Kd.R_alloc | apply Kd.R_drewN | apply Kd.R_drew)); exact HO.out)); (case aB => exact (by repeat (first | (with_reducible first | exact HB.out | apply below_alloc | apply pw_below_drewN | apply below_drew1) | exact HB.out))); (case aS => exact (below_size (by repeat (first | (with_reducible first | exact HB.out | apply below_alloc | apply pw_below_drewN | apply below_drew1) | exact HB.out)))); (case aL => have := HL.out; omega); intro v1 w1 ho hb hg hat; have n0_ := Aside0.mk ho; have n1_ := Aside0.mk hb; clear HO HB ho hb hg hat; have HO := n0_; have HB := n1_; clear n0_ n1_)
            go_roundg 5
            case measure => omega
            case rel => exact ⟨2, acc ++ [181], by omega, by omega, rfl, ⟨(by (with_reducible repeat (first | apply Kd.R_alloc | apply Kd.R_drewN | apply Kd.R_drew)); exact HO.out)⟩, ⟨(by repeat (first | (with_reducible first | exact HB.out | apply below_alloc | apply pw_below_drewN | apply below_drew1) | exact HB.out))⟩, ⟨by rw [← HA.out]; simp [othersL, famO]⟩, ⟨by have := HL.out; simp; omega⟩⟩
          · have h' : ((924 : Int) == c) = false := by simpa using h
            go_wp2
            go_roundg 5
            case measure => omega
            case rel => exact ⟨2, acc, by omega, by omega, rfl, ⟨(by (with_reducible repeat (first | apply Kd.R_alloc | apply Kd.R_drewN | apply Kd.R_drew)); exact HO.out)⟩, ⟨(by repeat (first | (with_reducible first | exact HB.out | apply below_alloc | apply pw_below_drewN | apply below_drew1) | exact HB.out))⟩, ⟨by rw [← HA.out]; simp [othersL, famO, h]⟩, ⟨by have := HL.out; omega⟩⟩
        · have ii := oi2
          by_cases h : (931 : Int) = c
          · subst h
            go_wp2_with (at_builtin; (refine Kd.R_append (Kd.int .i64) (w0 := w) w.heap.size rfl (.tmp 43) (.tmp 46) 23 3 (.int .i64 0) 8 rfl Try.underlying23 info_int rfl (by decide) (by omega) u4 acc (962) [.int .i64 (962)] (fun _ => True) (fun _ => False) rfl ?aX ?aP (fun _ hk => hk.elim) ?aF ?aO ?aB ?aS ?aL ?_); (case aX => (first | rfl | (simp [Act.eval]; done) | (simp [Act.eval] <;> rfl))); (case aP => exact rfl); (case aF => exact fun _ _ => trivial); (case aO => exact (by (with_reducible repeat (first | apply Kd.R_alloc | apply Kd.R_drewN | apply Kd.R_drew)); exact HO.out)); (case aB => exact (by repeat (first | (with_reducible first | exact HB.out | apply below_alloc | apply pw_below_drewN | apply below_drew1) | exact HB.out))); (case aS => exact (below_size (by repeat (first | (with_reducible first | exact HB.out | apply below_alloc | apply pw_below_drewN | apply below_drew1) | exact HB.out)))); (case aL => have := HL.out; omega); intro v1 w1 ho hb hg hat; have n0_ := Aside0.mk ho; have n1_ := Aside0.mk hb; clear HO HB ho hb hg hat; have HO := n0_; have HB := n1_; clear n0_ n1_)
            go_roundg 4
            case measure => omega
            case rel => exact ⟨3, acc ++ [962], by omega, by omega, rfl, ⟨(by (with_reducible repeat (first | apply Kd.R_alloc | apply Kd.R_drewN | apply Kd.R_drew)); exact HO.out)⟩, ⟨(by repeat (first | (with_reducible first | exact HB.out | apply below_alloc | apply pw_below_drewN | apply below_drew1) | exact HB.out))⟩, ⟨by rw [← HA.out]; simp [othersL, famO]⟩, ⟨by have := HL.out; simp; omega⟩⟩
          · have h' : ((931 : Int) == c) = false := by simpa using h
            go_wp2
            go_roundg 4
            case measure => omega
            case rel => exact ⟨3, acc, by omega, by omega, rfl, ⟨(by (with_reducible repeat (first | apply Kd.R_alloc | apply Kd.R_drewN | apply Kd.R_drew)); exact HO.out)⟩, ⟨(by repeat (first | (with_reducible first | exact HB.out | apply below_alloc | apply pw_below_drewN | apply below_drew1) | exact HB.out))⟩, ⟨by rw [← HA.out]; simp [othersL, famO, h]⟩, ⟨by have := HL.out; omega⟩⟩
        · have ii := oi3
          by_cases h : (75 : Int) = c
          · subst h
            go_wp2_with (at_builtin; (refine Kd.R_append (Kd.int .i64) (w0 := w) w.heap.size rfl (.tmp 43) (.tmp 46) 23 3 (.int .i64 0) 8 rfl Try.underlying23 info_int rfl (by decide) (by omega) u4 acc (8490) [.int .i64 (8490)] (fun _ => True) (fun _ => False) rfl ?aX ?aP (fun _ hk => hk.elim) ?aF ?aO ?aB ?aS ?aL ?_); (case aX => (first | rfl | (simp [Act.eval]; done) | (simp [Act.eval] <;> rfl))); (case aP => exact rfl); (case aF => exact fun _ _ => trivial); (case aO => exact (by (with_reducible repeat (first | apply Kd.R_alloc | apply Kd.R_drewN | apply Kd.R_drew)); exact HO.out)); (case aB => exact (by repeat (first | (with_reducible first | exact HB.out | apply below_alloc | apply pw_below_drewN | apply below_drew1) | exact HB.out))); (case aS => exact (below_size (by repeat (first | (with_reducible first | exact HB.out | apply below_alloc | apply pw_below_drewN | apply below_drew1) | exact HB.out)))); (case aL => have := HL.out; omega); intro v1 w1 ho hb hg hat; have n0_ := Aside0.mk ho; have n1_ := Aside0.mk hb; clear HO HB ho hb hg hat; have HO := n0_; have HB := n1_; clear n0_ n1_)
            go_roundg 3
            case measure => omega
            case rel => exact ⟨4, acc ++ [8490], by omega, by omega, rfl, ⟨(by (with_reducible repeat (first | apply Kd.R_alloc | apply Kd.R_drewN | apply Kd.R_drew)); exact HO.out)⟩, ⟨(by repeat (first | (with_reducible first | exact HB.out | apply below_alloc | apply pw_below_drewN | apply below_drew1) | exact HB.out))⟩, ⟨by rw [← HA.out]; simp [othersL, famO]⟩, ⟨by have := HL.out; simp; omega⟩⟩
          · have h' : ((75 : Int) == c) = false := by simpa using h
            go_wp2
            go_roundg 3
            case measure => omega
            case rel => exact ⟨4, acc, by omega, by omega, rfl, ⟨(by (with_reducible repeat (first | apply Kd.R_alloc | apply Kd.R_drewN | apply Kd.R_drew)); exact HO.out)⟩, ⟨(by repeat (first | (with_reducible first | exact HB.out | apply below_alloc | apply pw_below_drewN | apply below_drew1) | exact HB.out))⟩, ⟨by rw [← HA.out]; simp [othersL, famO, h]⟩, ⟨by have := HL.out; omega⟩⟩
        · have ii := oi4
          by_cases h : (197 : Int) = c
          · subst h
            go_wp2_with (at_builtin; (refine Kd.R_append (Kd.int .i64) (w0 := w) w.heap.size rfl (.tmp 43) (.tmp 46) 23 3 (.int .i64 0) 8 rfl Try.underlying23 info_int rfl (by decide) (by omega) u4 acc (8491) [.int .i64 (8491)] (fun _ => True) (fun _ => False) rfl ?aX ?aP (fun _ hk => hk.elim) ?aF ?aO ?aB ?aS ?aL ?_); (case aX => (first | rfl | (simp [Act.eval]; done) | (simp [Act.eval] <;> rfl))); (case aP => exact rfl); (case aF => exact fun _ _ => trivial); (case aO => exact (by (with_reducible repeat (first | apply Kd.R_alloc | apply Kd.R_drewN | apply Kd.R_drew)); exact HO.out)); (case aB => exact (by repeat (first | (with_reducible first | exact HB.out | apply below_alloc | apply pw_below_drewN | apply below_drew1) | exact HB.out))); (case aS => exact (below_size (by repeat (first | (with_reducible first | exact HB.out | apply below_alloc | apply pw_below_drewN | apply below_drew1) | exact HB.out)))); (case aL => have := HL.out; omega); intro v1 w1 ho hb hg hat; have n0_ := Aside0.mk ho; have n1_ := Aside0.mk hb; clear HO HB ho hb hg hat; have HO := n0_; have HB := n1_; clear n0_ n1_)
            go_roundg 2
            case measure => omega
            case rel => exact ⟨5, acc ++ [8491], by omega, by omega, rfl, ⟨(by (with_reducible repeat (first | apply Kd.R_alloc | apply Kd.R_drewN | apply Kd.R_drew)); exact HO.out)⟩, ⟨(by repeat (first | (with_reducible first | exact HB.out | apply below_alloc | apply pw_below_drewN | apply below_drew1) | exact HB.out))⟩, ⟨by rw [← HA.out]; simp [othersL, famO]⟩, ⟨by have := HL.out; simp; omega⟩⟩
          · have h' : ((197 : Int) == c) = false := by simpa using h
            go_wp2
            go_roundg 2
            case measure => omega
            case rel => exact ⟨5, acc, by omega, by omega, rfl, ⟨(by (with_reducible repeat (first | apply Kd.R_alloc | apply Kd.R_drewN | apply Kd.R_drew)); exact HO.out)⟩, ⟨(by repeat (first | (with_reducible first | exact HB.out | apply below_alloc | apply pw_below_drewN | apply below_drew1) | exact HB.out))⟩, ⟨by rw [← HA.out]; simp [othersL, famO, h]⟩, ⟨by have := HL.out; omega⟩⟩
        · have ii := oi5
          by_cases h : (83 : Int) = c
          · subst h
            go_wp2_with (at_builtin; (refine Kd.R_append (Kd.int .i64) (w0 := w) w.heap.size rfl (.tmp 43) (.tmp 46) 23 3 (.int .i64 0) 8 rfl Try.underlying23 info_int rfl (by decide) (by omega) u4 acc (383) [.int .i64 (383)] (fun _ => True) (fun _ => False) rfl ?aX ?aP (fun _ hk => hk.elim) ?aF ?aO ?aB ?aS ?aL ?_); (case aX => (first | rfl | (simp [Act.eval]; done) | (simp [Act.eval] <;> rfl))); (case aP => exact rfl); (case aF => exact fun _ _ => trivial); (case aO => exact (by (with_reducible repeat (first | apply Kd.R_alloc | apply Kd.R_drewN | apply Kd.R_drew)); exact HO.out)); (case aB => exact (by repeat (first | (with_reducible first | exact HB.out | apply below_alloc | apply pw_below_drewN | apply below_drew1) | exact HB.out))); (case aS => exact (below_size (by repeat (first | (with_reducible first | exact HB.out | apply below_alloc | apply pw_below_drewN | apply below_drew1) | exact HB.out)))); (case aL => have := HL.out; omega); intro v1 w1 ho hb hg hat; have n0_ := Aside0.mk ho; have n1_ := Aside0.mk hb; clear HO HB ho hb hg hat; have HO := n0_; have HB := n1_; clear n0_ n1_)
            go_roundg 1
            case measure => omega
            case rel => exact ⟨6, acc ++ [383], by omega, by omega, rfl, ⟨(by (with_reducible repeat (first | apply Kd.R_alloc | apply Kd.R_drewN | apply Kd.R_drew)); exact HO.out)⟩, ⟨(by repeat (first | (with_reducible first | exact HB.out | apply below_alloc | apply pw_below_drewN | apply below_drew1) | exact HB.out))⟩, ⟨by rw [← HA.out]; simp [othersL, famO]⟩, ⟨by have := HL.out; simp; omega⟩⟩
          · have h' : ((83 : Int) == c) = false := by simpa using h
            go_wp2
            go_roundg 1
            case measure => omega
            case rel => exact ⟨6, acc, by omega, by omega, rfl, ⟨(by (with_reducible repeat (first | apply Kd.R_alloc | apply Kd.R_drewN | apply Kd.R_drew)); exact HO.out)⟩, ⟨(by repeat (first | (with_reducible first | exact HB.out | apply below_alloc | apply pw_below_drewN | apply below_drew1) | exact HB.out))⟩, ⟨by rw [← HA.out]; simp [othersL, famO, h]⟩, ⟨by have := HL.out; omega⟩⟩
        · have ii := oi6
          by_cases h : (937 : Int) = c
          · subst h
            go_wp2_with (at_builtin; (refine Kd.R_append (Kd.int .i64) (w0 := w) w.heap.size rfl (.tmp 43) (.tmp 46) 23 3 (.int .i64 0) 8 rfl Try.underlying23 info_int rfl (by decide) (by omega) u4 acc (8486) [.int .i64 (8486)] (fun _ => True) (fun _ => False) rfl ?aX ?aP (fun _ hk => hk.elim) ?aF ?aO ?aB ?aS ?aL ?_); (case aX => (first | rfl | (simp [Act.eval]; done) | (simp [Act.eval] <;> rfl))); (case aP => exact rfl); (case aF => exact fun _ _ => trivial); (case aO => exact (by (with_reducible repeat (first | apply Kd.R_alloc | apply Kd.R_drewN | apply Kd.R_drew)); exact HO.out)); (case aB => exact (by repeat (first | (with_reducible first | exact HB.out | apply below_alloc | apply pw_below_drewN | apply below_drew1) | exact HB.out))); (case aS => exact (below_size (by repeat (first | (with_reducible first | exact HB.out | apply below_alloc | apply pw_below_drewN | apply below_drew1) | exact HB.out)))); (case aL => have := HL.out; omega); intro v1 w1 ho hb hg hat; have n0_ := Aside0.mk ho; have n1_ := Aside0.mk hb; clear HO HB ho hb hg hat; have HO := n0_; have HB := n1_; clear n0_ n1_)
            go_roundg 0
            case measure => omega
            case rel => exact ⟨7, acc ++ [8486], by omega, by omega, rfl, ⟨(by (with_reducible repeat (first | apply Kd.R_alloc | apply Kd.R_drewN | apply Kd.R_drew)); exact HO.out)⟩, ⟨(by repeat (first | (with_reducible first | exact HB.out | apply below_alloc | apply pw_below_drewN | apply below_drew1) | exact HB.out))⟩, ⟨by rw [← HA.out]; simp [othersL, famO]⟩, ⟨by have := HL.out; simp; omega⟩⟩
          · have h' : ((937 : Int) == c) = false := by simpa using h
            go_wp2
            go_roundg 0
            case measure => omega
            case rel => exact ⟨7, acc, by omega, by omega, rfl, ⟨(by (with_reducible repeat (first | apply Kd.R_alloc | apply Kd.R_drewN | apply Kd.R_drew)); exact HO.out)⟩, ⟨(by repeat (first | (with_reducible first | exact HB.out | apply below_alloc | apply pw_below_drewN | apply below_drew1) | exact HB.out))⟩, ⟨by rw [← HA.out]; simp [othersL, famO, h]⟩, ⟨by have := HL.out; omega⟩⟩
    · have ii := bi0
      by_cases h1 : (65 : Int) ≤ c
      · by_cases h2 : c ≤ (90 : Int)
        · go_wp2_with (at_builtin; (refine Kd.R_append (Kd.int .i64) (w0 := w) w.heap.size rfl (.tmp 27) (.tmp 32) 23 3 (.int .i64 0) 8 rfl Try.underlying23 info_int rfl (by decide) (by omega) u4 acc (c + 32) [.int .i64 (c + 32)] (fun _ => True) (fun _ => False) rfl ?aX ?aP (fun _ hk => hk.elim) ?aF ?aO ?aB ?aS ?aL ?_); (case aX => (first | rfl | (simp [Act.eval]; done) | (simp [Act.eval] <;> rfl))); (case aP => exact rfl); (case aF => exact fun _ _ => trivial); (case aO => exact (by (with_reducible repeat (first | apply Kd.R_alloc | apply Kd.R_drewN | apply Kd.R_drew)); exact HO.out)); (case aB => exact (by repeat (first | (with_reducible first | exact HB.out | apply below_alloc | apply pw_below_drewN | apply below_drew1) | exact HB.out))); (case aS => exact (below_size (by repeat (first | (with_reducible first | exact HB.out | apply below_alloc | apply pw_below_drewN | apply below_drew1) | exact HB.out)))); (case aL => have := HL.out; omega); intro v1 w1 ho hb hg hat; have n0_ := Aside0.mk ho; have n1_ := Aside0.mk hb; clear HO HB ho hb hg hat; have HO := n0_; have HB := n1_; clear n0_ n1_)
          go_roundg 6
          case measure => omega
          case rel => exact ⟨1, acc ++ [c + 32], by omega, by omega, rfl, ⟨(by (with_reducible repeat (first | apply Kd.R_alloc | apply Kd.R_drewN | apply Kd.R_drew)); exact HO.out)⟩, ⟨(by repeat (first | (with_reducible first | exact HB.out | apply below_alloc | apply pw_below_drewN | apply below_drew1) | exact HB.out))⟩, ⟨by rw [← HA.out]; simp only [blocksL, List.drop_succ_cons, List.drop_zero]; rw [famB_yes (lo := 65) (hi := 90) (by omega)]; simp⟩, ⟨by have := HL.out; simp; omega⟩⟩
        · go_wp2
          go_roundg 6
          case measure => omega
          case rel => exact ⟨1, acc, by omega, by omega, rfl, ⟨(by (with_reducible repeat (first | apply Kd.R_alloc | apply Kd.R_drewN | apply Kd.R_drew)); exact HO.out)⟩, ⟨(by repeat (first | (with_reducible first | exact HB.out | apply below_alloc | apply pw_below_drewN | apply below_drew1) | exact HB.out))⟩, ⟨by rw [← HA.out]; simp only [blocksL, List.drop_succ_cons, List.drop_zero]; rw [famB_no (lo := 65) (hi := 90) (by omega)]⟩, ⟨by have := HL.out; omega⟩⟩
      · go_wp2
        go_roundg 6
        case measure => omega
        case rel => exact ⟨1, acc, by omega, by omega, rfl, ⟨(by (with_reducible repeat (first | apply Kd.R_alloc | apply Kd.R_drewN | apply Kd.R_drew)); exact HO.out)⟩, ⟨(by repeat (first | (with_reducible first | exact HB.out | apply below_alloc | apply pw_below_drewN | apply below_drew1) | exact HB.out))⟩, ⟨by rw [← HA.out]; simp only [blocksL, List.drop_succ_cons, List.drop_zero]; rw [famB_no (lo := 65) (hi := 90) (by omega)]⟩, ⟨by have := HL.out; omega⟩⟩
    · have ii := bi1
      by_cases h1 : (192 : Int) ≤ c
      · by_cases h2 : c ≤ (214 : Int)
        · go_wp2_with (at_builtin; (refine Kd.R_append (Kd.int .i64) (w0 := w) w.heap.size rfl (.tmp 27) (.tmp 32) 23 3 (.int .i64 0) 8 rfl Try.underlying23 info_int rfl (by decide) (by omega) u4 acc (c + 32) [.int .i64 (c + 32)] (fun _ => True) (fun _ => False) rfl ?aX ?aP (fun _ hk => hk.elim) ?aF ?aO ?aB ?aS ?aL ?_); (case aX => (first | rfl | (simp [Act.eval]; done) | (simp [Act.eval] <;> rfl))); (case aP => exact rfl); (case aF => exact fun _ _ => trivial); (case aO => exact (by (with_reducible repeat (first | apply Kd.R_alloc | apply Kd.R_drewN | apply Kd.R_drew)); exact HO.out)); (case aB => exact (by repeat (first | (with_reducible first | exact HB.out | apply below_alloc | apply pw_below_drewN | apply below_drew1) | exact HB.out))); (case aS => exact (below_size (by repeat (first | (with_reducible first | exact HB.out | apply below_alloc | apply pw_below_drewN | apply below_drew1) | exact HB.out)))); (case aL => have := HL.out; omega); intro v1 w1 ho hb hg hat; have n0_ := Aside0.mk ho; have n1_ := Aside0.mk hb; clear HO HB ho hb hg hat; have HO := n0_; have HB := n1_; clear n0_ n1_)
          go_roundg 5
          case measure => omega
          case rel => exact ⟨2, acc ++ [c + 32], by omega, by omega, rfl, ⟨(by (with_reducible repeat (first | apply Kd.R_alloc | apply Kd.R_drewN | apply Kd.R_drew)); exact HO.out)⟩, ⟨(by repeat (first | (with_reducible first | exact HB.out | apply below_alloc | apply pw_below_drewN | apply below_drew1) | exact HB.out))⟩, ⟨by rw [← HA.out]; simp only [blocksL, List.drop_succ_cons, List.drop_zero]; rw [famB_yes (lo := 192) (hi := 214) (by omega)]; simp⟩, ⟨by have := HL.out; simp; omega⟩⟩
        · go_wp2
          go_roundg 5
          case measure => omega
          case rel => exact ⟨2, acc, by omega, by omega, rfl, ⟨(by (with_reducible repeat (first | apply Kd.R_alloc | apply Kd.R_drewN | apply Kd.R_drew)); exact HO.out)⟩, ⟨(by repeat (first | (with_reducible first | exact HB.out | apply below_alloc | apply pw_below_drewN | apply below_drew1) | exact HB.out))⟩, ⟨by rw [← HA.out]; simp only [blocksL, List.drop_succ_cons, List.drop_zero]; rw [famB_no (lo := 192) (hi := 214) (by omega)]⟩, ⟨by have := HL.out; omega⟩⟩
      · go_wp2
        go_roundg 5
        case measure => omega
        case rel => exact ⟨2, acc, by omega, by omega, rfl, ⟨(by (with_reducible repeat (first | apply Kd.R_alloc | apply Kd.R_drewN | apply Kd.R_drew)); exact HO.out)⟩, ⟨(by repeat (first | (with_reducible first | exact HB.out | apply below_alloc | apply pw_below_drewN | apply below_drew1) | exact HB.out))⟩, ⟨by rw [← HA.out]; simp only [blocksL, List.drop_succ_cons, List.drop_zero]; rw [famB_no (lo := 192) (hi := 214) (by omega)]⟩, ⟨by have := HL.out; omega⟩⟩
    · have ii := bi2
      by_cases h1 : (216 : Int) ≤ c
      · by_cases h2 : c ≤ (222 : Int)
        · go_wp2_with (at_builtin; (refine Kd.R_append (Kd.int .i64) (w0 := w) w.heap.size rfl (.tmp 27) (.tmp 32) 23 3 (.int .i64 0) 8 rfl Try.underlying23 info_int rfl (by decide) (by omega) u4 acc (c + 32) [.int .i64 (c + 32)] (fun _ => True) (fun _ => False) rfl ?aX ?aP (fun _ hk => hk.elim) ?aF ?aO ?aB ?aS ?aL ?_); (case aX => (first | rfl | (simp [Act.eval]; done) | (simp [Act.eval] <;> rfl))); (case aP => exact rfl); (case aF => exact fun _ _ => trivial); (case aO => exact (by (with_reducible repeat (first | apply Kd.R_alloc | apply Kd.R_drewN | apply Kd.R_drew)); exact HO.out)); (case aB => exact (by repeat (first | (with_reducible first | exact HB.out | apply below_alloc | apply pw_below_drewN | apply below_drew1) | exact HB.out))); (case aS => exact (below_size (by repeat (first | (with_reducible first | exact HB.out | apply below_alloc | apply pw_below_drewN | apply below_drew1) | exact HB.out)))); (case aL => have := HL.out; omega); intro v1 w1 ho hb hg hat; have n0_ := Aside0.mk ho; have n1_ := Aside0.mk hb; clear HO HB ho hb hg hat; have HO := n0_; have HB := n1_; clear n0_ n1_)
          go_roundg 4
          case measure => omega
          case rel => exact ⟨3, acc ++ [c + 32], by omega, by omega, rfl, ⟨(by (with_reducible repeat (first | apply Kd.R_alloc | apply Kd.R_drewN | apply Kd.R_drew)); exact HO.out)⟩, ⟨(by repeat (first | (with_reducible first | exact HB.out | apply below_alloc | apply pw_below_drewN | apply below_drew1) | exact HB.out))⟩, ⟨by rw [← HA.out]; simp only [blocksL, List.drop_succ_cons, List.drop_zero]; rw [famB_yes (lo := 216) (hi := 222) (by omega)]; simp⟩, ⟨by have := HL.out; simp; omega⟩⟩
        · go_wp2
          go_roundg 4
          case measure => omega
          case rel => exact ⟨3, acc, by omega, by omega, rfl, ⟨(by (with_reducible repeat (first | apply Kd.R_alloc | apply Kd.R_drewN | apply Kd.R_drew)); exact HO.out)⟩, ⟨(by repeat (first | (with_reducible first | exact HB.out | apply below_alloc | apply pw_below_drewN | apply below_drew1) | exact HB.out))⟩, ⟨by rw [← HA.out]; simp only [blocksL, List.drop_succ_cons, List.drop_zero]; rw [famB_no (lo := 216) (hi := 222) (by omega)]⟩, ⟨by have := HL.out; omega⟩⟩
      · go_wp2
        go_roundg 4
        case measure => omega
        case rel => exact ⟨3, acc, by omega, by omega, rfl, ⟨(by (with_reducible repeat (first | apply Kd.R_alloc | apply Kd.R_drewN | apply Kd.R_drew)); exact HO.out)⟩, ⟨(by repeat (first | (with_reducible first | exact HB.out | apply below_alloc | apply pw_below_drewN | apply below_drew1) | exact HB.out))⟩, ⟨by rw [← HA.out]; simp only [blocksL, List.drop_succ_cons, List.drop_zero]; rw [famB_no (lo := 216) (hi := 222) (by omega)]⟩, ⟨by have := HL.out; omega⟩⟩
    · have ii := bi3
      by_cases h1 : (913 : Int) ≤ c
      · by_cases h2 : c ≤ (929 : Int)
        · go_wp2_with (at_builtin; (refine Kd.R_append (Kd.int .i64) (w0 := w) w.heap.size rfl (.tmp 27) (.tmp 32) 23 3 (.int .i64 0) 8 rfl Try.underlying23 info_int rfl (by decide) (by omega) u4 acc (c + 32) [.int .i64 (c + 32)] (fun _ => True) (fun _ => False) rfl ?aX ?aP (fun _ hk => hk.elim) ?aF ?aO ?aB ?aS ?aL ?_); (case aX => (first | rfl | (simp [Act.eval]; done) | (simp [Act.eval] <;> rfl))); (case aP => exact rfl); (case aF => exact fun _ _ => trivial); (case aO => exact (by (with_reducible repeat (first | apply Kd.R_alloc | apply Kd.R_drewN | apply Kd.R_drew)); exact HO.out)); (case aB => exact (by repeat (first | (with_reducible first | exact HB.out | apply below_alloc | apply pw_below_drewN | apply below_drew1) | exact HB.out))); (case aS => exact (below_size (by repeat (first | (with_reducible first | exact HB.out | apply below_alloc | apply pw_below_drewN | apply below_drew1) | exact HB.out)))); (case aL => have := HL.out; omega); intro v1 w1 ho hb hg hat; have n0_ := Aside0.mk ho; have n1_ := Aside0.mk hb; clear HO HB ho hb hg hat; have HO := n0_; have HB := n1_; clear n0_ n1_)
          go_roundg 3
          case measure => omega
          case rel => exact ⟨4, acc ++ [c + 32], by omega, by omega, rfl, ⟨(by (with_reducible repeat (first | apply Kd.R_alloc | apply Kd.R_drewN | apply Kd.R_drew)); exact HO.out)⟩, ⟨(by repeat (first | (with_reducible first | exact HB.out | apply below_alloc | apply pw_below_drewN | apply below_drew1) | exact HB.out))⟩, ⟨by rw [← HA.out]; simp only [blocksL, List.drop_succ_cons, List.drop_zero]; rw [famB_yes (lo := 913) (hi := 929) (by omega)]; simp⟩, ⟨by have := HL.out; simp; omega⟩⟩
        · go_wp2
          go_roundg 3
          case measure => omega
          case rel => exact ⟨4, acc, by omega, by omega, rfl, ⟨(by (with_reducible repeat (first | apply Kd.R_alloc | apply Kd.R_drewN | apply Kd.R_drew)); exact HO.out)⟩, ⟨(by repeat (first | (with_reducible first | exact HB.out | apply below_alloc | apply pw_below_drewN | apply below_drew1) | exact HB.out))⟩, ⟨by rw [← HA.out]; simp only [blocksL, List.drop_succ_cons, List.drop_zero]; rw [famB_no (lo := 913) (hi := 929) (by omega)]⟩, ⟨by have := HL.out; omega⟩⟩
      · go_wp2
        go_roundg 3
        case measure => omega
        case rel => exact ⟨4, acc, by omega, by omega, rfl, ⟨(by (with_reducible repeat (first | apply Kd.R_alloc | apply Kd.R_drewN | apply Kd.R_drew)); exact HO.out)⟩, ⟨(by repeat (first | (with_reducible first | exact HB.out | apply below_alloc | apply pw_below_drewN | apply below_drew1) | exact HB.out))⟩, ⟨by rw [← HA.out]; simp only [blocksL, List.drop_succ_cons, List.drop_zero]; rw [famB_no (lo := 913) (hi := 929) (by omega)]⟩, ⟨by have := HL.out; omega⟩⟩
    · have ii := bi4
      by_cases h1 : (931 : Int) ≤ c
      · by_cases h2 : c ≤ (939 : Int)
        · go_wp2_with (at_builtin; (refine Kd.R_append (Kd.int .i64) (w0 := w) w.heap.size rfl (.tmp 27) (.tmp 32) 23 3 (.int .i64 0) 8 rfl Try.underlying23 info_int rfl (by decide) (by omega) u4 acc (c + 32) [.int .i64 (c + 32)] (fun _ => True) (fun _ => False) rfl ?aX ?aP (fun _ hk => hk.elim) ?aF ?aO ?aB ?aS ?aL ?_); (case aX => (first | rfl | (simp [Act.eval]; done) | (simp [Act.eval] <;> rfl))); (case aP => exact rfl); (case aF => exact fun _ _ => trivial); (case aO => exact (by (with_reducible repeat (first | apply Kd.R_alloc | apply Kd.R_drewN | apply Kd.R_drew)); exact HO.out)); (case aB => exact (by repeat (first | (with_reducible first | exact HB.out | apply below_alloc | apply pw_below_drewN | apply below_drew1) | exact HB.out))); (case aS => exact (below_size (by repeat (first | (with_reducible first | exact HB.out | apply below_alloc | apply pw_below_drewN | apply below_drew1) | exact HB.out)))); (case aL => have := HL.out; omega); intro v1 w1 ho hb hg hat; have n0_ := Aside0.mk ho; have n1_ := Aside0.mk hb; clear HO HB ho hb hg hat; have HO := n0_; have HB := n1_; clear n0_ n1_)
          go_roundg 2
          case measure => omega
          case rel => exact ⟨5, acc ++ [c + 32], by omega, by omega, rfl, ⟨(by (with_reducible repeat (first | apply Kd.R_alloc | apply Kd.R_drewN | apply Kd.R_drew)); exact HO.out)⟩, ⟨(by repeat (first | (with_reducible first | exact HB.out | apply below_alloc | apply pw_below_drewN | apply below_drew1) | exact HB.out))⟩, ⟨by rw [← HA.out]; simp only [blocksL, List.drop_succ_cons, List.drop_zero]; rw [famB_yes (lo := 931) (hi := 939) (by omega)]; simp⟩, ⟨by have := HL.out; simp; omega⟩⟩
        · go_wp2
          go_roundg 2
          case measure => omega
          case rel => exact ⟨5, acc, by omega, by omega, rfl, ⟨(by (with_reducible repeat (first | apply Kd.R_alloc | apply Kd.R_drewN | apply Kd.R_drew)); exact HO.out)⟩, ⟨(by repeat (first | (with_reducible first | exact HB.out | apply below_alloc | apply pw_below_drewN | apply below_drew1) | exact HB.out))⟩, ⟨by rw [← HA.out]; simp only [blocksL, List.drop_succ_cons, List.drop_zero]; rw [famB_no (lo := 931) (hi := 939) (by omega)]⟩, ⟨by have := HL.out; omega⟩⟩
      · go_wp2
        go_roundg 2
        case measure => omega
        case rel => exact ⟨5, acc, by omega, by omega, rfl, ⟨(by (with_reducible repeat (first | apply Kd.R_alloc | apply Kd.R_drewN | apply Kd.R_drew)); exact HO.out)⟩, ⟨(by repeat (first | (with_reducible first | exact HB.out | apply below_alloc | apply pw_below_drewN | apply below_drew1) | exact HB.out))⟩, ⟨by rw [← HA.out]; simp only [blocksL, List.drop_succ_cons, List.drop_zero]; rw [famB_no (lo := 931) (hi := 939) (by omega)]⟩, ⟨by have := HL.out; omega⟩⟩
    · have ii := bi5
      by_cases h1 : (1040 : Int) ≤ c
      · by_cases h2 : c ≤ (1071 : Int)
        · go_wp2_with (at_builtin; (refine Kd.R_append (Kd.int .i64) (w0 := w) w.heap.size rfl (.tmp 27) (.tmp 32) 23 3 (.int .i64 0) 8 rfl Try.underlying23 info_int rfl (by decide) (by omega) u4 acc (c + 32) [.int .i64 (c + 32)] (fun _ => True) (fun _ => False) rfl ?aX ?aP (fun _ hk => hk.elim) ?aF ?aO ?aB ?aS ?aL ?_); (case aX => (first | rfl | (simp [Act.eval]; done) | (simp [Act.eval] <;> rfl))); (case aP => exact rfl); (case aF => exact fun _ _ => trivial); (case aO => exact (by (with_reducible repeat (first | apply Kd.R_alloc | apply Kd.R_drewN | apply Kd.R_drew)); exact HO.out)); (case aB => exact (by repeat (first | (with_reducible first | exact HB.out | apply below_alloc | apply pw_below_drewN | apply below_drew1) | exact HB.out))); (case aS => exact (below_size (by repeat (first | (with_reducible first | exact HB.out | apply below_alloc | apply pw_below_drewN | apply below_drew1) | exact HB.out)))); (case aL => have := HL.out; omega); intro v1 w1 ho hb hg hat; have n0_ := Aside0.mk ho; have n1_ := Aside0.mk hb; clear HO HB ho hb hg hat; have HO := n0_; have HB := n1_; clear n0_ n1_)
          go_roundg 1
          case measure => omega
          case rel => exact ⟨6, acc ++ [c + 32], by omega, by omega, rfl, ⟨(by (with_reducible repeat (first | apply Kd.R_alloc | apply Kd.R_drewN | apply Kd.R_drew)); exact HO.out)⟩, ⟨(by repeat (first | (with_reducible first | exact HB.out | apply below_alloc | apply pw_below_drewN | apply below_drew1) | exact HB.out))⟩, ⟨by rw [← HA.out]; simp only [blocksL, List.drop_succ_cons, List.drop_zero]; rw [famB_yes (lo := 1040) (hi := 1071) (by omega)]; simp⟩, ⟨by have := HL.out; simp; omega⟩⟩
        · go_wp2
          go_roundg 1
          case measure => omega
          case rel => exact ⟨6, acc, by omega, by omega, rfl, ⟨(by (with_reducible repeat (first | apply Kd.R_alloc | apply Kd.R_drewN | apply Kd.R_drew)); exact HO.out)⟩, ⟨(by repeat (first | (with_reducible first | exact HB.out | apply below_alloc | apply pw_below_drewN | apply below_drew1) | exact HB.out))⟩, ⟨by rw [← HA.out]; simp only [blocksL, List.drop_succ_cons, List.drop_zero]; rw [famB_no (lo := 1040) (hi := 1071) (by omega)]⟩, ⟨by have := HL.out; omega⟩⟩
      · go_wp2
        go_roundg 1
        case measure => omega
        case rel => exact ⟨6, acc, by omega, by omega, rfl, ⟨(by (with_reducible repeat (first | apply Kd.R_alloc | apply Kd.R_drewN | apply Kd.R_drew)); exact HO.out)⟩, ⟨(by repeat (first | (with_reducible first | exact HB.out | apply below_alloc | apply pw_below_drewN | apply below_drew1) | exact HB.out))⟩, ⟨by rw [← HA.out]; simp only [blocksL, List.drop_succ_cons, List.drop_zero]; rw [famB_no (lo := 1040) (hi := 1071) (by omega)]⟩, ⟨by have := HL.out; omega⟩⟩
    · have ii := bi6
      by_cases h1 : (1024 : Int) ≤ c
      · by_cases h2 : c ≤ (1039 : Int)
        · go_wp2_with (at_builtin; (refine Kd.R_append (Kd.int .i64) (w0 := w) w.heap.size rfl (.tmp 27) (.tmp 32) 23 3 (.int .i64 0) 8 rfl Try.underlying23 info_int rfl (by decide) (by omega) u4 acc (c + 80) [.int .i64 (c + 80)] (fun _ => True) (fun _ => False) rfl ?aX ?aP (fun _ hk => hk.elim) ?aF ?aO ?aB ?aS ?aL ?_); (case aX => (first | rfl | (simp [Act.eval]; done) | (simp [Act.eval] <;> rfl))); (case aP => exact rfl); (case aF => exact fun _ _ => trivial); (case aO => exact (by (with_reducible repeat (first | apply Kd.R_alloc | apply Kd.R_drewN | apply Kd.R_drew)); exact HO.out)); (case aB => exact (by repeat (first | (with_reducible first | exact HB.out | apply below_alloc | apply pw_below_drewN | apply below_drew1) | exact HB.out))); (case aS => exact (below_size (by repeat (first | (with_reducible first | exact HB.out | apply below_alloc | apply pw_below_drewN | apply below_drew1) | exact HB.out)))); (case aL => have := HL.out; omega); intro v1 w1 ho hb hg hat; have n0_ := Aside0.mk ho; have n1_ := Aside0.mk hb; clear HO HB ho hb hg hat; have HO := n0_; have HB := n1_; clear n0_ n1_)
          go_roundg 0
          case measure => omega
          case rel => exact ⟨7, acc ++ [c + 80], by omega, by omega, rfl, ⟨(by (with_reducible repeat (first | apply Kd.R_alloc | apply Kd.R_drewN | apply Kd.R_drew)); exact HO.out)⟩, ⟨(by repeat (first | (with_reducible first | exact HB.out | apply below_alloc | apply pw_below_drewN | apply below_drew1) | exact HB.out))⟩, ⟨by rw [← HA.out]; simp only [blocksL, List.drop_succ_cons, List.drop_zero]; rw [famB_yes (lo := 1024) (hi := 1039) (by omega)]; simp⟩, ⟨by have := HL.out; simp; omega⟩⟩
        · go_wp2
          go_roundg 0
          case measure => omega
          case rel => exact ⟨7, acc, by omega, by omega, rfl, ⟨(by (with_reducible repeat (first | apply Kd.R_alloc | apply Kd.R_drewN | apply Kd.R_drew)); exact HO.out)⟩, ⟨(by repeat (first | (with_reducible first | exact HB.out | apply below_alloc | apply pw_below_drewN | apply below_drew1) | exact HB.out))⟩, ⟨by rw [← HA.out]; simp only [blocksL, List.drop_succ_cons, List.drop_zero]; rw [famB_no (lo := 1024) (hi := 1039) (by omega)]⟩, ⟨by have := HL.out; omega⟩⟩
      · go_wp2
        go_roundg 0
        case measure => omega
        case rel => exact ⟨7, acc, by omega, by omega, rfl, ⟨(by (with_reducible repeat (first | apply Kd.R_alloc | apply Kd.R_drewN | apply Kd.R_drew)); exact HO.out)⟩, ⟨(by repeat (first | (with_reducible first | exact HB.out | apply below_alloc | apply pw_below_drewN | apply below_drew1) | exact HB.out))⟩, ⟨by rw [← HA.out]; simp only [blocksL, List.drop_succ_cons, List.drop_zero]; rw [famB_no (lo := 1024) (hi := 1039) (by omega)]⟩, ⟨by have := HL.out; omega⟩⟩
end Go.Proofs.YthblpnfkdkhcpaaX
