import Derived.Test.YtoihlfiacnljhaaXBandsB
import Derived.Test.YtoihlfiacnljhaaXBandsA
import Derived.Test.YtoihlfiacnljhaaXSortA
import Derived.Deep.LoopGhost
namespace Go.Proofs.YtoihlfiacnljhaaX
open Go.RowKit Go.Proofs.YtoihlfiacnljhaaW.PrintWords Go.Proofs.YtoihlfiacnljhaaW.PrintLast Go.Proofs.YtoihlfiacnljhaaW.PrintMore
set_option linter.unusedVariables false
set_option linter.unusedSimpArgs false
theorem C_rg_at {w : World} {A : Option Addr} {l : List (Int × Int)} (h : Kd.C kRg w A l.length l) {i : Nat} (hi : i < l.length) :
    ∃ b off, A = some ⟨b, off, none⟩ ∧ b < w.heap.size ∧ w.cell? ⟨b, off + i * 2, none⟩ = some (.int .i64 l[i].1) ∧ w.cell? ⟨b, off + i * 2 + 1, none⟩ = some (.int .i64 l[i].2) := by
  obtain ⟨b, off, rfl, hb, _, hc⟩ := row_cells (of := fun x : Int × Int => x) (fun h => kRg_K h) kRg_sz h (by omega)
  have e : (l.map fun x : Int × Int => x) = l := by simp
  rw [e] at hc
  refine ⟨b, off, rfl, hb, ?_, ?_⟩
  · have := hc i hi 0 _ rfl
    rw [getElem!_pos l i hi] at this
    exact this
  · have := hc i hi 1 _ rfl
    rw [getElem!_pos l i hi] at this
    exact this
theorem idx_byte (s : ByteArray) (k : Nat) (hk : k < s.size) (w : World) : (Instr.index 9 (.string s) (.int .i64 k)).run Try.prog w = .ok (.int .u8 (byteI s k)) w := by
  rw [run_index_string _ _ _ _ _ Try.underlying9, dif_pos ⟨by omega, by omega⟩]
  unfold byteI
  rw [dif_pos hk]
  rfl
set_option maxHeartbeats 2000000 in
set_option maxRecDepth 100000 in
theorem takes_any (A : Option Addr) (c : Nat) (seq : List (Int × Int)) (s : ByteArray) (w : World) (h : Kd.C kRg w A seq.length seq) (hn : seq.length ≤ 1000000) :
    Calls Try.prog 30 #[.slice A seq.length c, .string s] w fun e w' => e = .returned (.bool (takesF s seq)) ∧ Below w.heap.size w w' := by
  have HC := Aside0.mk h
  clear h
  obtain ⟨n, hln⟩ : ∃ n, n = seq.length := ⟨_, rfl⟩
  have HL := Aside0.mk hln
  have HB0 := Aside0.mk (Below.refl w.heap.size w)
  obtain ⟨T, hT⟩ : ∃ T, T = takesF s seq := ⟨_, rfl⟩
  rw [← hT]
  have HT := Aside0.mk hT
  clear hT
  rw [← hln] at HC hn ⊢
  by_cases h0 : n = 0
  · obtain rfl : T = false := by rw [HT.out]; unfold takesF; rw [decide_eq_false (by omega), Bool.false_and]
    subst h0
    clear hln
    go_enter Try.func30, Try.ntmps30
    go_wp2
    go_ret
    exact ⟨rfl, HB0.out⟩
  · have hz : decide ((n : Int) = 0) = false := decide_eq_false (by omega)
    have hz2 : ((n : Int) == 0) = false := by simpa using h0
    have hzn : (n : Int) ≠ 0 := by omega
    by_cases h1 : n ≤ s.size
    · have hs1 : ¬ ((s.size : Int) < (n : Int)) := by omega
      have HT2 := Aside0.mk (show T = okFrom s 0 (seq.drop 0) by rw [HT.out]; unfold takesF; rw [decide_eq_true (by omega), decide_eq_true (by omega), Bool.true_and, Bool.true_and]; rfl)
      have HIX := Aside0.mk (fun (k : Nat) (hk : k < n) (w : World) => idx_byte s k (by omega) w)
      clear hln HT
      go_enter Try.func30, Try.ntmps30
      go_wp2_with fail
      generalize Value.string s = Vs at HIX ⊢
      go_loopg [20] n (fun g s20 wr => ∃ k : Nat, k ≤ n ∧ n - k ≤ g ∧ s20 = .int .i64 k ∧ Aside0 (T = okFrom s k (seq.drop k)) ∧ Aside0 (Below w.heap.size w wr))
      case atStart => exact ⟨0, by omega, by omega, rfl, HT2, HB0⟩
      case round =>
        clear HB0 HT2
        obtain ⟨k, hk, hg, rfl, HT, HB⟩ := hrel
        by_cases hlt : k < n
        · have hix := HIX.out k hlt
          have hbi := byteI_in s k
          have hkl : k < seq.length := by have := HL.out; omega
          have hcc := Kd.C_below HC.out HB.out
          rw [HL.out] at hcc
          obtain ⟨b, off, rfl, hbw, e1, e2⟩ := C_rg_at hcc hkl
          have hd := HT.out
          rw [List.drop_eq_getElem_cons hkl, okFrom] at hd
          clear hcc
          generalize byteI s k = v at hix hbi hd
          generalize (seq[k]'hkl) = x at e1 e2 hd
          obtain ⟨x1, x2⟩ := x
          dsimp only at e1 e2 hd
          have HD := Aside0.mk hd
          clear hd HT
          have hwv : IntKind.i64.wrap v = v := by rw [IntKind.wrap_i64]; omega
          have hbn : b ≠ wr.heap.size := by omega
          have HB1 := Aside0.mk (HB.out.alloc HB.out.size (.cells #[.int .i64 x1, .int .i64 x2] 41))
          by_cases h1 : v < x1
          · have hr : T = false := by rw [HD.out, decide_eq_false (by omega), Bool.false_and]
            subst hr
            clear HD
            go_wp2_with fail
            go_ret
            exact ⟨rfl, HB1.out⟩
          · by_cases h2 : x2 < v
            · have hr : T = false := by rw [HD.out, decide_eq_false (p := v ≤ x2) (by omega), Bool.false_and, Bool.and_false]
              subst hr
              clear HD
              go_wp2_with fail
              go_ret
              exact ⟨rfl, HB1.out⟩
            · have HD2 := Aside0.mk (show T = okFrom s (k + 1) (seq.drop (k + 1)) by rw [HD.out, decide_eq_true (by omega), decide_eq_true (by omega), Bool.true_and, Bool.true_and])
              clear HD
              go_wp2_with fail
              go_roundg (n - (k + 1))
              case measure => omega
              case rel => exact ⟨k + 1, by omega, by omega, by rw [show (k : Int) + 1 = ((k + 1 : Nat) : Int) by omega], HD2, HB1⟩
        · have hr : T = true := by
            rw [HT.out, List.drop_of_length_le (by have := HL.out; omega)]
            rfl
          subst hr
          go_wp2_with fail
          go_ret
          exact ⟨rfl, HB.out⟩
    · obtain rfl : T = false := by rw [HT.out]; unfold takesF; rw [decide_eq_false (p := seq.length ≤ s.size) (by omega), Bool.false_and, Bool.and_false]
      have hs1 : ((s.size : Int) < (n : Int)) := by omega
      clear hln
      go_enter Try.func30, Try.ntmps30
      go_wp2
      go_ret
      exact ⟨rfl, HB0.out⟩
theorem C_seq_at {w : World} {A : Option Addr} {l : List (List (Int × Int))} (h : Kd.C kSeqs w A l.length l) {i : Nat} (hi : i < l.length) :
    ∃ ad A0 c0, A = some ad ∧ w.cell? (ad.add i) = some (.slice A0 l[i].length c0) ∧ l[i].length ≤ c0 ∧ Kd.C kRg w A0 l[i].length l[i] := by
  obtain ⟨ad, c, e, _, hK, hc0⟩ := Kd.C_get h ([] : List (Int × Int)) i (by omega) (by omega)
  rw [Int.toNat_natCast] at hK hc0
  have e1 : l.getD i [] = l[i] := by rw [List.getD_eq_getElem?_getD, List.getElem?_eq_getElem hi]; rfl
  rw [e1] at hK
  obtain ⟨A0, c0, rfl, l0, g0⟩ := hK
  refine ⟨ad, A0, c0, e, ?_, l0, g0⟩
  have := hc0 0 _ rfl
  rwa [show kSeqs.sz = 1 from rfl, Nat.mul_one, Nat.add_zero] at this
set_option maxHeartbeats 1000000 in
theorem long1_any (A : Option Addr) (c : Nat) (seq : List (Int × Int)) (s : ByteArray) (B : Nat) (w : World) (hB : w.cell? ⟨B, 0, none⟩ = some (.string s)) (h : Kd.C kRg w A seq.length seq) (hn : seq.length ≤ 1000000) :
    Calls Try.prog 29 #[.slice A seq.length c, .pointer (some ⟨B, 0, none⟩)] w fun e w' => e = .returned (.bool (takesF s seq)) ∧ Below w.heap.size w w' := by
  have HC := Aside0.mk (takes_any A c seq s w h hn)
  clear h hn
  generalize takesF s seq = q at HC ⊢
  generalize seq.length = n at *
  go_enter Try.func29, Try.ntmps29
  go_wp2_with fail
  refine HC.out.mono ?_
  rintro e w' ⟨rfl, hb⟩
  go_wp2
  go_ret
  exact ⟨rfl, hb⟩
def IndexPost (s : ByteArray) (l : List (List (Int × Int))) (w : World) (e : Ending) (w' : World) : Prop :=
  (∃ i : Int, e = .returned (.int .i64 i) ∧ ((i = -1 ∧ longF s l = 0) ∨ ∃ k : Nat, ∃ hk : k < l.length, i = k ∧ longF s l = l[k].length)) ∧ Below w.heap.size w w'
set_option maxHeartbeats 1000000 in
theorem index_seqs (A : Option Addr) (c : Nat) (l : List (List (Int × Int))) (s : ByteArray) (B : Nat) (w : World) (hB : w.cell? ⟨B, 0, none⟩ = some (.string s)) (hBw : B < w.heap.size) (hl : Kd.C kSeqs w A l.length l) (hn : l.length ≤ 1000000000) (hq : ∀ q ∈ l, q.length ≤ 1000000) :
    Calls Try.prog 28 #[.slice A l.length c, .func (.func 29) #[] #[.pointer (some ⟨B, 0, none⟩)]] w (IndexPost s l w) := by
  have HI := Aside0.mk (fun (W : World) (A0 : Option Addr) (c0 : Nat) (q : List (Int × Int)) (hb : Below w.heap.size w W) (h : Kd.C kRg W A0 q.length q) (hn : q.length ≤ 1000000) => long1_any A0 c0 q s B W ((hb.cell (p := ⟨B, 0, none⟩) hBw).trans hB) h hn)
  clear hB
  have HF := Aside0.mk hl
  have HQ := Aside0.mk hq
  clear hl hq
  obtain ⟨n, hln⟩ : ∃ n, n = l.length := ⟨_, rfl⟩
  have HL := Aside0.mk hln
  rw [← hln] at HF hn ⊢
  clear hln
  have HB0 := Aside0.mk (Below.refl w.heap.size w)
  go_enter Try.func28, Try.ntmps28
  go_wp2
  go_loopg [8] n (fun g s8 wr => ∃ k : Nat, k ≤ n ∧ n - k ≤ g ∧ s8 = .int .i64 k ∧ Aside0 (longF s l = longF s (l.drop k)) ∧ Aside0 (Below w.heap.size w wr))
  case atStart => exact ⟨0, by omega, by omega, rfl, ⟨rfl⟩, HB0⟩
  case round =>
    clear HB0
    obtain ⟨k, hk, hg, rfl, HA, HB⟩ := hrel
    by_cases hlt : k < n
    · have hf := Kd.C_below HF.out HB.out
      have hkl : k < l.length := by have := HL.out; omega
      rw [HL.out] at hf
      obtain ⟨ad, A0, c0, rfl, hc, hle, hCq⟩ := C_seq_at hf hkl
      have hql := HQ.out _ (List.getElem_mem hkl)
      have HP := Aside0.mk (HI.out wr A0 c0 _ HB.out hCq hql)
      have hd := HA.out
      rw [List.drop_eq_getElem_cons hkl, longF] at hd
      have HD := Aside0.mk hd
      have HX := Aside0.mk (show ∃ hk : k < l.length, l[k] = l[k] from ⟨hkl, rfl⟩)
      clear hd hf hCq hle hql
      obtain ⟨q, hq⟩ : ∃ q, q = l[k] := ⟨_, rfl⟩
      rw [← hq] at HP HD hc
      have HQE := Aside0.mk hq
      clear hq HX
      by_cases hp : takesF s q = true
      · rw [hp] at HP HD
        clear hp
        go_wp2_with fail
        refine HP.out.mono ?_
        rintro e w' ⟨rfl, hb⟩
        have HB' := Aside0.mk (HB.out.trans (hb.mono HB.out.size))
        clear hb
        go_wp2
        go_ret
        exact ⟨⟨(k : Int), rfl, .inr ⟨k, hkl, rfl, by rw [HD.out, if_pos trivial, HQE.out]⟩⟩, HB'.out⟩
      · rw [Bool.not_eq_true] at hp
        rw [hp] at HP HD
        clear hp
        go_wp2_with fail
        refine HP.out.mono ?_
        rintro e w' ⟨rfl, hb⟩
        have HB' := Aside0.mk (HB.out.trans (hb.mono HB.out.size))
        clear hb
        go_wp2
        go_roundg (n - (k + 1))
        case measure => omega
        case rel => exact ⟨k + 1, by omega, by omega, by rw [show (k : Int) + 1 = ((k + 1 : Nat) : Int) by omega], ⟨by rw [HD.out]; rfl⟩, HB'⟩
    · go_wp2
      go_ret
      refine ⟨⟨-1, rfl, .inl ⟨rfl, ?_⟩⟩, HB.out⟩
      rw [HA.out, List.drop_of_length_le (by have := HL.out; omega)]
      rfl
set_option maxHeartbeats 1000000 in
theorem long_any (A : Option Addr) (c : Nat) (l : List (List (Int × Int))) (s : ByteArray) (w : World) (hl : Kd.C kSeqs w A l.length l) (hn : l.length ≤ 1000000000) (hq : ∀ q ∈ l, q.length ≤ 1000000) :
    Calls Try.prog 13 #[.slice A l.length c, .string s] w fun e w' => e = .returned (.int .i64 (longF s l)) ∧ Below w.heap.size w w' := by
  have h0 := heap_alloc_last w (.cells #[.string s] 9)
  have hb := (Below.refl _ w).alloc (Nat.le_refl _) (.cells #[.string s] 9)
  have HI := Aside0.mk (index_seqs A c l s w.heap.size (w.alloc (.cells #[.string s] 9)) ((blk_cell h0 0).trans rfl) (blk_lt h0) (Kd.C_below hl hb) hn hq)
  have HB := Aside0.mk hb
  have HF := Aside0.mk hl
  clear h0 hb hl
  obtain ⟨n, hln⟩ : ∃ n, n = l.length := ⟨_, rfl⟩
  have HL := Aside0.mk hln
  rw [← hln] at HI HF hn ⊢
  clear hln
  go_enter Try.func13, Try.ntmps13
  go_wp2_with fail
  refine HI.out.mono ?_
  rintro e w' ⟨⟨i, rfl, hi⟩, hb'⟩
  have HB' := Aside0.mk (HB.out.trans (hb'.mono HB.out.size))
  clear hb' HI
  rcases hi with ⟨rfl, hi⟩ | ⟨k, hk, rfl, hi⟩
  · have HLF := Aside0.mk hi
    clear hi
    go_wp2_with fail
    go_ret
    exact ⟨by rw [HLF.out]; rfl, HB'.out⟩
  · have hf := Kd.C_below HF.out HB'.out
    rw [HL.out] at hf
    obtain ⟨ad, A0, c0, rfl, hc, hle, hCq⟩ := C_seq_at hf hk
    have HLF := Aside0.mk hi
    have hkn : k < n := by have := HL.out; omega
    have hql := hq _ (List.getElem_mem hk)
    clear hf hle hCq hi hq
    generalize (l[k]'hk).length = nq at HLF hc hql
    go_wp2_with fail
    go_ret
    exact ⟨by rw [HLF.out]; rfl, HB'.out⟩
end Go.Proofs.YtoihlfiacnljhaaX
