import Derived.Test.YtoihlfiacnljhaaXBandsA
import Derived.Test.YtoihlfiacnljhaaXRangesA
import Derived.ScopeJumps
import Derived.WalkMore
import Derived.StillTailTactics
import Derived.Laws.StructEq
import Derived.Laws.Cover2
import Derived.Deep.RegionLaw
import Derived.Laws.Rows
namespace Go.Proofs.YtoihlfiacnljhaaX
open Go.RowKit Go.Proofs.YtoihlfiacnljhaaW.PrintWords Go.Proofs.YtoihlfiacnljhaaW.PrintLast Go.Proofs.YtoihlfiacnljhaaW.PrintMore
set_option linter.unusedVariables false
set_option linter.unusedSimpArgs false
theorem idx_str {L : List Int} (k : Nat) (hk : k < L.length) (h : ∀ x ∈ L, 0 ≤ x ∧ x ≤ 255) (w : World) : (Instr.index 9 (.string (strOfNums L)) (.int .i64 k)).run Try.prog w = .ok (.int .u8 L[k]) w := by
  have hx := h L[k] (List.getElem_mem hk)
  rw [run_index_string _ _ _ _ _ Try.underlying9, dif_pos ⟨by omega, by rw [strOfNums_size]; omega⟩]
  have e : ((strOfNums L)[((k : Int)).toNat]'(by rw [strOfNums_size]; omega)) = UInt8.ofNat L[k].toNat := by
    show (strOfNums L).data[((k : Int)).toNat]'_ = _
    simp [strOfNums]
  rw [e]
  congr 2
  rw [UInt8.toNat_ofNat']
  omega
theorem eq_ends (a b c d : Int) (w : World) : (Op.equalIn 10000 61 (.agg #[.int .i64 a, .int .i64 b]) (.agg #[.int .i64 c, .int .i64 d])).run Try.prog w = .ok (a == c && b == d) w := by
  have u3 := Try.underlying3
  have a3 := Try.isAgg3
  have z3 := Try.sizeOf3
  rw [show (10000 : Nat) = 9999 + 1 from rfl, Op.equalIn]
  simp only [Sem.run_bind, run_underlying Try.underlying61, Result.andThen_ok]
  simp only [Std.Legacy.Range.forIn_eq_forIn_range', Std.Legacy.Range.size, Nat.sub_zero, Nat.add_sub_cancel, Nat.div_one, List.range'_succ, List.range'_zero, List.forIn_cons, List.forIn_nil]
  go_simp
  by_cases h1 : a = c <;> by_cases h2 : b = d <;> simp [h1, h2]
def kSeqs : Kd (List (Int × Int)) := Kd.slice 41 kRg
theorem wrap_in {x : Int} (h0 : -9223372036854775808 ≤ x) (h1 : x ≤ 9223372036854775807) : wrap64 x = x := by
  unfold wrap64
  omega
theorem build_rg (a b : Int) (w : World) : (Instr.build 41 #[(0, .int .i64 a), (1, .int .i64 b)]).run Try.prog w = .ok (.agg #[.int .i64 a, .int .i64 b]) w := run_build w 41 _ _ (by kernel_rfl)
theorem info_seq : (Try.prog.info? 29).map (fun i => (i.zero, i.size, i.bytes)) = some (some (.slice none 0 0), 1, 24) := by kernel_rfl
/-- What stands behind calls that put sequences behind others (v0 at w): v at w'. -/
structure SeqsAt (base : Nat) (w : World) (v0 : Value) (w' : World) (v : Value) (ls : List (List (Int × Int))) : Prop where
  row : Kd.S kSeqs 29 w' base (fun _ => True) v ls
  below : Below base w w'
  keep : ∀ k, k < w.heap.size → some k ≠ v0.ownBlock → w'.heap[k]? = w.heap[k]?
  at_ : v.ownBlock = v0.ownBlock ∨ ∃ b, v.ownBlock = some b ∧ w.heap.size ≤ b
theorem SeqsAt.refl {base : Nat} {w : World} {v : Value} {ls : List (List (Int × Int))} (h : Kd.S kSeqs 29 w base (fun _ => True) v ls) : SeqsAt base w v w v ls := ⟨h, Below.refl _ _, fun _ _ _ => rfl, .inl rfl⟩
theorem SeqsAt.step {base : Nat} {w w1 w2 : World} {v0 v : Value} {ls : List (List (Int × Int))} (h : SeqsAt base w v0 w1 v ls) (hb : Below w1.heap.size w1 w2) (hw : base ≤ w.heap.size) : SeqsAt base w v0 w2 v ls :=
  ⟨Kd.S_below h.row hb, h.below.trans (hb.mono (Nat.le_trans hw h.below.size)), fun k hk hne => (hb.block k (Nat.lt_of_lt_of_le hk h.below.size)).trans (h.keep k hk hne), h.at_⟩
theorem SeqsAt.trans {base : Nat} {w w1 w2 : World} {v0 v1 v2 : Value} {l1 l2 : List (List (Int × Int))} (h : SeqsAt base w v0 w1 v1 l1) (h2 : SeqsAt base w1 v1 w2 v2 l2) : SeqsAt base w v0 w2 v2 l2 := by
  refine ⟨h2.row, h.below.trans h2.below, fun k hk hne => (h2.keep k (Nat.lt_of_lt_of_le hk h.below.size) ?_).trans (h.keep k hk hne), ?_⟩
  · rcases h.at_ with e | ⟨b, e, hb⟩
    · rw [e]; exact hne
    · rw [e]; intro e2; injection e2 with e2; omega
  · rcases h2.at_ with e | ⟨b, e, hb⟩
    · rw [e]; exact h.at_
    · exact .inr ⟨b, e, Nat.le_trans h.below.size hb⟩
theorem SeqsAt.grown {base : Nat} {w w1 w2 : World} {v0 v1 v2 : Value} {l1 l2 : List (List (Int × Int))} (h : SeqsAt base w v0 w1 v1 l1) (hr : Kd.S kSeqs 29 w2 base (fun _ => True) v2 l2) (hb : Below base w1 w2) (hg : w1.grownBy w2 v1.ownBlock) (hat : v2.ownBlock = v1.ownBlock ∨ ∃ b, v2.ownBlock = some b ∧ w1.heap.size ≤ b) : SeqsAt base w v0 w2 v2 l2 :=
  h.trans ⟨hr, hb, fun k hk hne => hg.block k hk hne, hat⟩
def SeqsPost (base : Nat) (w : World) (v0 : Value) (ls : List (List (Int × Int))) (e : Ending) (w' : World) : Prop := ∃ v : Value, e = .returned v ∧ SeqsAt base w v0 w' v ls
end Go.Proofs.YtoihlfiacnljhaaX

namespace Go.Proofs.YtoihlfiacnljhaaX
open Go.RowKit Go.Proofs.YtoihlfiacnljhaaW.PrintWords Go.Proofs.YtoihlfiacnljhaaW.PrintLast Go.Proofs.YtoihlfiacnljhaaW.PrintMore
set_option linter.unusedVariables false
set_option linter.unusedSimpArgs false
set_option maxHeartbeats 8000000 in
set_option maxRecDepth 100000 in
theorem part_any (n base : Nat) : ∀ (d : Nat) (lo hi : Int) (acc : List (List (Int × Int))) (v : Value) (w : World), (hi - lo).toNat ≤ d → OneW n lo hi → base ≤ w.heap.size → acc.length + (hi - lo).toNat ≤ 10000000 → Kd.S kSeqs 29 w base (fun _ => True) v acc →
    Calls Try.prog 32 #[v, .int .i64 lo, .int .i64 hi] w (SeqsPost base w v (acc ++ partL n lo hi))
  | d, lo, hi, acc, v, w, hd, hw, hb, hn, hR => by
    have HIH := Aside0.mk (fun (lo' hi' : Int) (acc' : List (List (Int × Int))) (v' : Value) (w' : World) (hlt : (hi' - lo').toNat < d) (h2 : OneW n lo' hi') (h3 : base ≤ w'.heap.size) (h4 : acc'.length + (hi' - lo').toNat ≤ 10000000) (h5 : Kd.S kSeqs 29 w' base (fun _ => True) v' acc') => part_any n base ((hi' - lo').toNat) lo' hi' acc' v' w' (Nat.le_refl _) h2 h3 h4 h5)
    obtain ⟨VA, Vc, rfl⟩ := Kd.S_slice hR
    have HR := Aside0.mk (SeqsAt.refl hR)
    have HW := Aside0.mk hw
    have HWD := Aside0.mk (width_any lo w)
    rw [hw.width (Int.le_refl _) hw.le] at HWD
    obtain ⟨T, hT⟩ : ∃ T, T = acc ++ partL n lo hi := ⟨_, rfl⟩
    rw [← hT]
    have HT := Aside0.mk hT.symm
    obtain ⟨na, hna⟩ : ∃ na, na = acc.length := ⟨_, rfl⟩
    have HNA := Aside0.mk hna
    rw [← hna] at hn HR ⊢
    have HNN := Aside0.mk hn
    have HD := Aside0.mk hd
    clear hR hw hn hT hna hd
    obtain ⟨na0, hna0⟩ : ∃ na0, na0 = na := ⟨_, rfl⟩
    rw [show SeqsPost base w (.slice VA na Vc) T = SeqsPost base w (.slice VA na0 Vc) T by rw [hna0]]
    rw [show SeqsAt base w (.slice VA na Vc) w (.slice VA na Vc) acc = SeqsAt base w (.slice VA na0 Vc) w (.slice VA na Vc) acc by rw [hna0]] at HR
    clear hna0
    go_enter Try.func32, Try.ntmps32
    go_wp2_with fail
    refine wp_scope_jumps 0 (fun _ _ => False) (fun _ _ => 0) rfl ?_ (fun _ _ h => h.elim)
    go_wp2_with fail
    refine HWD.out.mono ?_
    rintro e w1 ⟨rfl, rfl⟩
    clear HWD
    go_wp2_with fail
    go_step3
    go_wp2_with fail
    go_loopg [0, 1, 2] ((hi - lo).toNat) (fun g s0 s1 s2 wr => ∃ (lo' : Int) (acc' : List (List (Int × Int))) (A : Option Addr) (c na' : Nat), lo ≤ lo' ∧ lo' ≤ hi ∧ (hi - lo').toNat ≤ g ∧ s0 = .slice A na' c ∧ s1 = .int .i64 lo' ∧ s2 = .int .i64 hi ∧ Aside0 (na' = acc'.length) ∧ Aside0 (SeqsAt base w1 (.slice VA na0 Vc) wr (.slice A na' c) acc') ∧ Aside0 (acc' ++ partL n lo' hi = T) ∧ Aside0 (na' + (hi - lo').toNat ≤ 10000000))
    case atStart => exact ⟨lo, acc, VA, Vc, na, Int.le_refl _, HW.out.le, Nat.le_refl _, rfl, rfl, rfl, HNA, HR, HT, HNN⟩
    case round =>
      clear HR HT HNN HNA na acc
      obtain ⟨lo', acc, A, c, na, hlo, hhi, hg, rfl, rfl, rfl, HNA, HR, HT, HNN⟩ := hrel
      have HW' := Aside0.mk (HW.out.sub hlo hhi (Int.le_refl _))
      have HP := Aside0.mk (parted_any lo' hi n HW'.out.n1 HW'.out.inr.1 hhi HW'.out.inr.2 wr)
      have HBW := Aside0.mk (Nat.le_trans hb HR.out.below.size)
      rcases partG_cases HW'.out.inr.1 hhi (psOf n) (psOf_in n) with hp | ⟨m, hm1, hm2, hp⟩
      · rw [hp] at HP
        have HL := Aside0.mk (partL_one hp)
        clear hp
        go_wp2_with fail
        refine HP.out.mono ?_
        rintro e w2 ⟨rfl, hb2⟩
        have HR2 := Aside0.mk (HR.out.step hb2 hb)
        clear hb2 HP HR
        have HE := eq_ends lo' hi lo' hi
        rw [show (lo' == lo' && hi == hi) = true by simp] at HE
        go_wp2_with fail
        have HN := Aside0.mk HW'.out.n1
        have HE1 := Aside0.mk (fun w => encode_any lo' n HN.out (HW'.out.width (Int.le_refl _) hhi) ⟨HW'.out.inr.1, by have := HW'.out.inr; omega⟩ w)
        have HE2 := Aside0.mk (fun w => encode_any hi n HN.out (HW'.out.width hhi (Int.le_refl _)) ⟨by have := HW'.out.inr; omega, HW'.out.inr.2⟩ w)
        refine (HE1.out _).mono ?_
        rintro e w3 ⟨rfl, hb3⟩
        have HR3 := Aside0.mk ((HR2.out.step (((Below.refl _ w2).alloc (Nat.le_refl _) _).alloc (by simp) _) hb).step hb3 hb)
        clear hb3 HR2 HE HE1
        go_wp2_with fail
        refine (HE2.out _).mono ?_
        rintro e w4 ⟨rfl, hb4⟩
        have HR4 := Aside0.mk (HR3.out.step hb4 hb)
        clear hb4 HR3 HE2
        go_wp2_with fail
        have HI1 := Aside0.mk (fun (k : Nat) (hk : k < n) (w : World) => idx_str (L := encN n lo') k (by rw [encN_len n HN.out.1]; exact hk) (encN_in HN.out (HW'.out.width (Int.le_refl _) hhi) ⟨HW'.out.inr.1, by have := HW'.out.inr; omega⟩) w)
        have HI2 := Aside0.mk (fun (k : Nat) (hk : k < n) (w : World) => idx_str (L := encN n hi) k (by rw [encN_len n HN.out.1]; exact hk) (encN_in HN.out (HW'.out.width hhi (Int.le_refl _)) ⟨by have := HW'.out.inr; omega, HW'.out.inr.2⟩) w)
        have HX1 := Aside0.mk (fun (k : Nat) (hk : k < n) => encN_in HN.out (HW'.out.width (Int.le_refl _) hhi) ⟨HW'.out.inr.1, by have := HW'.out.inr; omega⟩ _ (List.getElem_mem (l := encN n lo') (n := k) (by rw [encN_len n HN.out.1]; exact hk)))
        have HX2 := Aside0.mk (fun (k : Nat) (hk : k < n) => encN_in HN.out (HW'.out.width hhi (Int.le_refl _)) ⟨by have := HW'.out.inr; omega, HW'.out.inr.2⟩ _ (List.getElem_mem (l := encN n hi) (n := k) (by rw [encN_len n HN.out.1]; exact hk)))
        rw [strOfNums_size, encN_len n HN.out.1]
        generalize Value.string (strOfNums (encN n lo')) = Sa at HI1 ⊢
        generalize Value.string (strOfNums (encN n hi)) = Sb at HI2 ⊢
        obtain ⟨L, hL⟩ : ∃ L, L = seqOf n lo' hi := ⟨_, rfl⟩
        have HLL := Aside0.mk hL
        clear hL
        have HRN := Aside0.mk (show Kd.R kRg 41 w4 w4.heap.size (fun _ => True) (.slice none 0 0) (L.take 0) from Kd.R_nil _ _ _ _ _)
        have HB4 := Aside0.mk (Below.refl w4.heap.size w4)
        go_loopg [14, 50] n (fun g s14 s50 wr => ∃ (k : Nat) (A : Option Addr) (c : Nat), k ≤ n ∧ n - k ≤ g ∧ s14 = .slice A k c ∧ s50 = .int .i64 k ∧ Aside0 (Kd.R kRg 41 wr w4.heap.size (fun _ => True) (.slice A k c) (L.take k)) ∧ Aside0 (Below w4.heap.size w4 wr))
        case atStart => exact ⟨0, none, 0, by omega, by omega, rfl, rfl, HRN, HB4⟩
        case round =>
          clear HRN HB4
          obtain ⟨k, Ak, ck, hk, hgk, rfl, rfl, HK, HB⟩ := hrel
          by_cases hlt : k < n
          · have hi1 := HI1.out k hlt
            have hi2 := HI2.out k hlt
            have hx1 := HX1.out k hlt
            have hx2 := HX2.out k hlt
            have HD := Aside0.mk (show L.take (k + 1) = L.take k ++ [((encN n lo')[k]'(by rw [encN_len n HN.out.1]; exact hlt), (encN n hi)[k]'(by rw [encN_len n HN.out.1]; exact hlt))] by
              rw [List.take_succ_eq_append_getElem (by rw [HLL.out, seqOf_len HN.out.1]; exact hlt)]
              congr 1
              have := seqOf_at HN.out.1 lo' hi k hlt
              rw [← this]
              simp [HLL.out])
            generalize (encN n lo')[k]'_ = x at hi1 hx1 HD
            generalize (encN n hi)[k]'_ = y at hi2 hx2 HD
            have hbr := build_rg x y
            have hwx : IntKind.i64.wrap x = x := by rw [IntKind.wrap_i64]; omega
            have hwy : IntKind.i64.wrap y = y := by rw [IntKind.wrap_i64]; omega
            go_wp2_with fail
            have hbd := (Below.refl wr.heap.size wr).drew
            have HK1 := Aside0.mk (Kd.R_below HK.out hbd)
            have HB1 := Aside0.mk (HB.out.trans (hbd.mono HB.out.size))
            clear hbd HK HB
            have hkl : (L.take k).length ≤ 4 := by have := HN.out; rw [List.length_take]; omega
            have HKL := Aside0.mk hkl
            clear hkl
            go_region_law (change ite _ (Oper.wp _ _ _ (wr.drew.alloc (.cells ([.int .i64 x, .int .i64 y] : List Value).toArray 41)) _ _) _; refine Kd.R_append_step kRg (w0 := wr.drew) (W := wr.drew) w4.heap.size (by rfl) (.tmp 53) (.tmp 63) 29 41 (.agg #[(.int .i64 0), (.int .i64 0)]) 16 rfl Try.underlying29 info_rg rfl (by decide) (by omega) (.slice Ak k ck) (L.take k) (x, y) [.int .i64 x, .int .i64 y] (fun _ => True) (fun _ => False) ?aV ?aX ?aP (fun _ hk => hk.elim) (fun _ _ => trivial) HK1.out (Below.refl _ _) HB1.out.size (by have := HKL.out; omega) ?_; (case aV => (first | rfl | (simp [Act.eval]; done) | (simp [Act.eval] <;> rfl))); (case aX => (first | rfl | (simp [Act.eval]; done) | (simp [Act.eval] <;> rfl))); (case aP => exact kRg_fixed.make _ _ _ (x, y)); intro v1 w6 ho hb6 hg6 hat6; rw [← HD.out] at ho; obtain ⟨A6, c6, e1⟩ := Kd.R_slice ho; rw [show (L.take (k + 1)).length = k + 1 by rw [List.length_take, HLL.out, seqOf_len HN.out.1]; omega] at e1; subst e1; have HO := Aside0.mk ho; have HG := Aside0.mk hb6; clear ho hb6 hg6 hat6)
            all_goals go_wp2_with fail
            all_goals (
              go_roundg (n - (k + 1))
              case measure => omega
              case rel => exact ⟨k + 1, A6, c6, by omega, by omega, rfl, by rw [wrap_in (x := (k : Int) + 1) (by have := HN.out; omega) (by have := HN.out; omega)]; rfl, HO, ⟨HB1.out.trans HG.out⟩⟩)
          · obtain rfl : k = n := by omega
            have hLk : L.take k = L := List.take_of_length_le (by rw [HLL.out, seqOf_len HN.out.1]; exact Nat.le_refl _)
            rw [hLk] at HK
            have HR5 := Aside0.mk (HR4.out.step HB.out hb)
            have hA := Kd.S_lt HR4.out.row
            have HM := Aside0.mk (Kd.M_row (Kd.R_lower (Kd.R_mono (ok' := fun j => w4.heap.size ≤ j) (Kd.R_bound HK.out) (fun j hj => hj.2.1)) (Nat.le_trans hb HR4.out.below.size)))
            have HSO := Aside0.mk (Kd.S_mono (ok' := fun j => True ∧ ¬ w4.heap.size ≤ j) (Kd.S_old HR4.out.row HB.out) (fun j hj => ⟨trivial, by have := hj.2; omega⟩))
            have HFN := Aside0.mk (show ∀ j, w4.heap.size ≤ j → True ∧ some j ≠ (Value.slice A na c).ownBlock from fun j hj => ⟨trivial, fun e => by have := hA j e.symm; omega⟩)
            have HTL := Aside0.mk (show acc ++ [L] = T by rw [HLL.out, ← HL.out]; exact HT.out)
            have hal : acc.length ≤ 10000000 := by have := HNA.out; have := HNN.out; omega
            have hbw : base ≤ wr.heap.size := Nat.le_trans hb HR5.out.below.size
            clear hLk hA HR4 HK HLL HT HL
            go_wp2_with (at_builtin; refine Kd.S_append kSeqs (w0 := wr) (W := wr) base rfl (.tmp 66) (.tmp 68) 22 29 (.slice none 0 0) 24 rfl Try.underlying22 info_seq rfl (by decide) (by omega) (.slice A na c) acc L [.slice Ak k ck] (fun _ => True) (fun j => w4.heap.size ≤ j) ?aV ?aX HM.out HFN.out (fun _ _ => trivial) HSO.out (Below.refl _ _) hbw (by omega) ?_; (case aV => (first | rfl | (simp [Act.eval]; done) | (simp [Act.eval] <;> rfl))); (case aX => (first | rfl | (simp [Act.eval]; done) | (simp [Act.eval] <;> rfl))); intro v1 w6 ho hb6 hg6 hat6; rw [HTL.out] at ho; have HO := Aside0.mk (HR5.out.grown ho hb6 hg6 hat6); obtain ⟨A6, c6, e1⟩ := Kd.S_slice ho; subst e1; clear ho hb6 hg6 hat6)
            go_ret
            exact ⟨_, rfl, HO.out⟩
      · rw [hp] at HP
        have HL := Aside0.mk (partL_two hm1 hm2 hp)
        clear hp
        go_wp2_with fail
        refine HP.out.mono ?_
        rintro e w2 ⟨rfl, hb2⟩
        have HR2 := Aside0.mk (HR.out.step hb2 hb)
        clear hb2 HP HR
        have he : (lo' == m + 1 && m == hi) = false := by
          have : m ≠ hi := by omega
          simp [this]
        have HE := eq_ends lo' m (m + 1) hi
        rw [he] at HE
        clear he
        go_wp2_with fail
        have hba : Below w2.heap.size w2 ((w2.alloc (.cells #[.int .i64 lo', .int .i64 m] 61)).alloc (.cells #[.int .i64 (m + 1), .int .i64 hi] 61)) := ((Below.refl _ w2).alloc (Nat.le_refl _) _).alloc (by simp) _
        have hl2 := heap_alloc_last (w2.alloc (.cells #[.int .i64 lo', .int .i64 m] 61)) (.cells #[.int .i64 (m + 1), .int .i64 hi] 61)
        rw [show (w2.alloc (.cells #[.int .i64 lo', .int .i64 m] 61)).heap.size = w2.heap.size + 1 by simp] at hl2
        have HR3 := Aside0.mk (HR2.out.step hba hb)
        have HL2 := Aside0.mk hl2
        have hlt := Kd.S_lt HR2.out.row
        have HNE := Aside0.mk (show some (w2.heap.size + 1) ≠ (Value.slice A na c).ownBlock from fun e => by have := hlt _ e.symm; omega)
        clear hba hl2 HR2 hlt
        generalize (w2.alloc (.cells #[.int .i64 lo', .int .i64 m] 61)).alloc (.cells #[.int .i64 (m + 1), .int .i64 hi] 61) = w3 at HR3 HL2 ⊢
        have hpl := partL_len n (m - lo').toNat lo' m (Nat.le_refl _)
        refine (HIH.out lo' m acc (.slice A na c) w3 ?_ (HW'.out.sub (Int.le_refl _) hm1 (by omega)) (Nat.le_trans hb HR3.out.below.size) ?_ HR3.out.row).mono ?_
        · have := HD.out; omega
        · have := HNN.out; have := HNA.out; omega
        rintro e w4 ⟨v4, rfl, hR4⟩
        obtain ⟨A4, c4, rfl⟩ := Kd.S_slice hR4.row
        have hx := (hR4.keep _ (blk_lt HL2.out) HNE.out).trans HL2.out
        have x0 : w4.cell? ⟨w2.heap.size + 1, 0, none⟩ = some (.int .i64 (m + 1)) := (blk_cell hx 0).trans rfl
        have x1 : w4.cell? ⟨w2.heap.size + 1, 1, none⟩ = some (.int .i64 hi) := (blk_cell hx 1).trans rfl
        have HR4 := Aside0.mk (HR3.out.trans hR4)
        have HT4 := Aside0.mk (show (acc ++ partL n lo' m) ++ partL n (m + 1) hi = T by rw [List.append_assoc, ← HL.out]; exact HT.out)
        have HN4 := Aside0.mk (show (acc ++ partL n lo' m).length + (hi - (m + 1)).toNat ≤ 10000000 by rw [List.length_append]; have := HNN.out; have := HNA.out; omega)
        clear HR3 HT HL HNN HNA hR4 hx hpl HNE HL2
        generalize hac : acc ++ partL n lo' m = ac at HR4 HT4 HN4 ⊢
        obtain ⟨na4, hna4⟩ : ∃ k, k = ac.length := ⟨_, rfl⟩
        have HNA4 := Aside0.mk hna4
        rw [← hna4] at HR4 HN4 ⊢
        clear hna4 hac
        go_wp2_with fail
        go_quiet (fail)
        go_wp2_with fail
        go_roundg ((hi - (m + 1)).toNat)
        case measure => omega
        case rel =>
          exact ⟨m + 1, ac, A4, c4, na4, by omega, by omega, Nat.le_refl _, rfl, rfl, rfl, HNA4, ⟨HR4.out.step (pw_below_drewN (Below.refl _ _) _) hb⟩, HT4, HN4⟩
termination_by d => d
end Go.Proofs.YtoihlfiacnljhaaX

namespace Go.Proofs.YtoihlfiacnljhaaX
open Go.RowKit Go.Proofs.YtoihlfiacnljhaaW.PrintWords Go.Proofs.YtoihlfiacnljhaaW.PrintLast Go.Proofs.YtoihlfiacnljhaaW.PrintMore
set_option linter.unusedVariables false
set_option linter.unusedSimpArgs false
def wdV : Array Value := #[.int .i64 0, .int .i64 127, .int .i64 128, .int .i64 2047, .int .i64 2048, .int .i64 55295, .int .i64 57344, .int .i64 65535, .int .i64 65536, .int .i64 1114111]
set_option maxHeartbeats 2000000 in
set_option maxRecDepth 100000 in
theorem widths_any (w : World) : Calls Try.prog 31 #[] w fun e w' => e = .returned (.agg wdV) ∧ Below w.heap.size w w' := by
  have b1 := build_rg 0 127
  have b2 := build_rg 128 2047
  have b3 := build_rg 2048 55295
  have b4 := build_rg 57344 65535
  have b5 := build_rg 65536 1114111
  have b6 : ∀ w, (Instr.build 49 #[(0, .agg #[.int .i64 0, .int .i64 127]), (1, .agg #[.int .i64 128, .int .i64 2047]), (2, .agg #[.int .i64 2048, .int .i64 55295]), (3, .agg #[.int .i64 57344, .int .i64 65535]), (4, .agg #[.int .i64 65536, .int .i64 1114111])]).run Try.prog w = .ok (.agg wdV) w := fun w => run_build w 49 _ _ (by kernel_rfl)
  go_enter Try.func31, Try.ntmps31
  go_wp2_with fail
  exact bodyPost_ret (results_cell_row rfl _ _ w.heap.size 49 wdV (0, 0) _ rfl (heap_alloc_last w _) Try.underlying49 rfl (by kernel_rfl)) rfl ⟨rfl, (Below.refl _ w).alloc (Nat.le_refl _) _⟩
theorem cutW_len (lo hi : Int) (k : Nat) (hk : k < 5) : (cutW lo hi (wds[k]'hk)).length ≤ 1114112 := by
  unfold cutW
  have hr : 0 ≤ (wds[k]'hk).2.1 ∧ (wds[k]'hk).2.2 ≤ 1114111 := by
    match k, hk with
    | 0, _ => simp [wds]
    | 1, _ => simp [wds]
    | 2, _ => simp [wds]
    | 3, _ => simp [wds]
    | 4, _ => simp [wds]
  split
  · rename_i h
    have := partL_len (wds[k]'hk).1 _ _ _ (Nat.le_refl (min hi (wds[k]'hk).2.2 - max lo (wds[k]'hk).2.1).toNat)
    omega
  · simp
theorem idx_wd0 (w : World) : (Instr.index 49 (.agg wdV) (.int .i64 0)).run Try.prog w = .ok (.agg #[.int .i64 0, .int .i64 127]) w := by kernel_rfl
theorem idx_wd1 (w : World) : (Instr.index 49 (.agg wdV) (.int .i64 1)).run Try.prog w = .ok (.agg #[.int .i64 128, .int .i64 2047]) w := by kernel_rfl
theorem idx_wd2 (w : World) : (Instr.index 49 (.agg wdV) (.int .i64 2)).run Try.prog w = .ok (.agg #[.int .i64 2048, .int .i64 55295]) w := by kernel_rfl
theorem idx_wd3 (w : World) : (Instr.index 49 (.agg wdV) (.int .i64 3)).run Try.prog w = .ok (.agg #[.int .i64 57344, .int .i64 65535]) w := by kernel_rfl
theorem idx_wd4 (w : World) : (Instr.index 49 (.agg wdV) (.int .i64 4)).run Try.prog w = .ok (.agg #[.int .i64 65536, .int .i64 1114111]) w := by kernel_rfl
theorem idx_wd (k : Nat) (hk : k < 5) (w : World) : (Instr.index 49 (.agg wdV) (.int .i64 k)).run Try.prog w = .ok (.agg #[.int .i64 (wds[k]'hk).2.1, .int .i64 (wds[k]'hk).2.2]) w := by
  match k, hk with
  | 0, _ => exact idx_wd0 w
  | 1, _ => exact idx_wd1 w
  | 2, _ => exact idx_wd2 w
  | 3, _ => exact idx_wd3 w
  | 4, _ => exact idx_wd4 w
theorem wd_in (k : Nat) (hk : k < 5) : 0 ≤ (wds[k]'hk).2.1 ∧ (wds[k]'hk).2.2 ≤ 1114111 := by
  match k, hk with
  | 0, _ => simp [wds]
  | 1, _ => simp [wds]
  | 2, _ => simp [wds]
  | 3, _ => simp [wds]
  | 4, _ => simp [wds]
theorem take_wd (lo hi : Int) (k : Nat) (hk : k < 5) : (wds.take (k + 1)).flatMap (cutW lo hi) = (wds.take k).flatMap (cutW lo hi) ++ cutW lo hi (wds[k]'hk) := by
  rw [List.take_succ_eq_append_getElem hk, List.flatMap_append]
  simp
set_option maxHeartbeats 8000000 in
set_option maxRecDepth 100000 in
attribute [local go_sem] max2_int min2_int in
theorem split_any (lo hi : Int) (w : World) : Calls Try.prog 17 #[.int .i64 lo, .int .i64 hi] w fun e w' => ∃ v, e = .returned v ∧ Kd.S kSeqs 29 w' w.heap.size (fun _ => True) v (splitL lo hi) ∧ Below w.heap.size w w' := by
  have HW := Aside0.mk (widths_any w)
  go_enter Try.func17, Try.ntmps17
  go_wp2_with fail
  refine HW.out.mono ?_
  rintro e w1 ⟨rfl, hb1⟩
  have HB1 := Aside0.mk hb1
  clear hb1 HW
  go_wp2_with fail
  have HIX := Aside0.mk idx_wd
  generalize Value.agg wdV = WA at HIX ⊢
  have HS := Aside0.mk (SeqsAt.refl (base := w.heap.size) (w := w1) (v := .slice none 0 0) (ls := (wds.take 0).flatMap (cutW lo hi)) (Kd.S_nil _ _ _ _ _))
  go_loopg [5, 11] 5 (fun g s5 s11 wr => ∃ (k : Nat) (A : Option Addr) (c na : Nat) (acc : List (List (Int × Int))), k ≤ 5 ∧ 5 - k ≤ g ∧ s5 = .slice A na c ∧ s11 = .int .i64 k ∧ Aside0 (na = acc.length) ∧ Aside0 (acc = (wds.take k).flatMap (cutW lo hi)) ∧ na ≤ k * 1114112 ∧ Aside0 (SeqsAt w.heap.size w1 (.slice none 0 0) wr (.slice A na c) acc))
  case atStart => exact ⟨0, none, 0, 0, [], by omega, by omega, rfl, rfl, ⟨rfl⟩, ⟨rfl⟩, by omega, HS⟩
  case round =>
    clear HS
    obtain ⟨k, A, c, na, acc, hk, hg, rfl, rfl, HNA, HAC, hna, HS⟩ := hrel
    by_cases hlt : k < 5
    · have hix := HIX.out k hlt
      have HT := Aside0.mk (take_wd lo hi k hlt)
      have HO := Aside0.mk (oneW_cut lo hi k hlt)
      have HCL := Aside0.mk (cutW_len lo hi k hlt)
      have HCU := Aside0.mk (show cutW lo hi (wds[k]'hlt) = if max lo (wds[k]'hlt).2.1 ≤ min hi (wds[k]'hlt).2.2 then partL (wds[k]'hlt).1 (max lo (wds[k]'hlt).2.1) (min hi (wds[k]'hlt).2.2) else [] from rfl)
      have hdr : (min hi (wds[k]'hlt).2.2 - max lo (wds[k]'hlt).2.1).toNat ≤ 1114111 := by
        have hr := wd_in k hlt
        omega
      rw [← HAC.out] at HT
      generalize cutW lo hi (wds[k]'hlt) = cu at HT HCL HCU
      generalize (wds[k]'hlt).2.1 = a at hix HO HCU hdr
      generalize (wds[k]'hlt).2.2 = b at hix HO HCU hdr
      generalize (wds[k]'hlt).1 = n at HO HCU
      go_wp2_with fail
      have hl := heap_alloc_last wr (.cells #[.int .i64 a, .int .i64 b] 41)
      have HS2 := Aside0.mk (HS.out.step ((Below.refl _ wr).alloc (Nat.le_refl _) (.cells #[.int .i64 a, .int .i64 b] 41)) HB1.out.size)
      have x0 : (wr.alloc (.cells #[.int .i64 a, .int .i64 b] 41)).cell? ⟨wr.heap.size, 0, none⟩ = some (.int .i64 a) := (blk_cell hl 0).trans rfl
      have x1 : (wr.alloc (.cells #[.int .i64 a, .int .i64 b] 41)).cell? ⟨wr.heap.size, 1, none⟩ = some (.int .i64 b) := (blk_cell hl 1).trans rfl
      clear hl HS
      generalize wr.alloc (.cells #[.int .i64 a, .int .i64 b] 41) = w2 at HS2 x0 x1 ⊢
      go_quiet (fail)
      have HS3 := Aside0.mk (HS2.out.step (pw_below_drewN (Below.refl _ w2) nq) HB1.out.size)
      clear HS2 x0 x1
      generalize w2.drewN nq = w3 at HS3 ⊢
      by_cases hc : max lo a ≤ min hi b
      · rw [if_pos hc] at HCU
        have hna2 : acc.length + (min hi b - max lo a).toNat ≤ 10000000 := by have := HNA.out; omega
        go_wp2_with fail
        refine (part_any n w.heap.size _ _ _ acc (.slice A na c) w3 (Nat.le_refl _) (HO.out hc) (Nat.le_trans HB1.out.size HS3.out.below.size) hna2 HS3.out.row).mono ?_
        rintro e w4 ⟨v4, rfl, hR4⟩
        obtain ⟨A4, c4, rfl⟩ := Kd.S_slice hR4.row
        have HR4 := Aside0.mk (HS3.out.trans hR4)
        have HT4 := Aside0.mk (show (acc ++ partL n (max lo a) (min hi b)) = (wds.take (k + 1)).flatMap (cutW lo hi) by rw [HT.out, HCU.out])
        have HL4 := Aside0.mk (show (acc ++ partL n (max lo a) (min hi b)).length ≤ (k + 1) * 1114112 by rw [List.length_append, ← HCU.out]; have := HCL.out; have := HNA.out; omega)
        clear hR4 HS3 HT HCU HO
        generalize acc ++ partL n (max lo a) (min hi b) = ac at HR4 HT4 HL4 ⊢
        obtain ⟨n4, hn4⟩ : ∃ n4, n4 = ac.length := ⟨_, rfl⟩
        have HN4 := Aside0.mk hn4
        rw [← hn4] at HR4 HL4 ⊢
        clear hn4
        go_wp2_with fail
        go_roundg (5 - (k + 1))
        case measure => omega
        case rel => exact ⟨k + 1, A4, c4, n4, ac, by omega, by omega, rfl, rfl, HN4, HT4, HL4.out, HR4⟩
      · rw [if_neg hc] at HCU
        have hna3 : na ≤ (k + 1) * 1114112 := Nat.le_trans hna (Nat.mul_le_mul_right _ (Nat.le_succ k))
        have HT4 := Aside0.mk (show acc = (wds.take (k + 1)).flatMap (cutW lo hi) by rw [HT.out, HCU.out, List.append_nil])
        clear HT HCU HO
        go_wp2_with fail
        go_roundg (5 - (k + 1))
        case measure => omega
        case rel => exact ⟨k + 1, A, c, na, acc, by omega, by omega, rfl, rfl, HNA, HT4, hna3, HS3⟩
    · obtain rfl : k = 5 := by omega
      go_wp2_with fail
      go_ret
      have hs := HS.out.row
      have e : acc = splitL lo hi := HAC.out
      rw [e] at hs
      exact ⟨_, rfl, hs, HB1.out.trans HS.out.below⟩
end Go.Proofs.YtoihlfiacnljhaaX
