import Derived.Test.YtoihlfiacnljhaaXBandsBits
import Derived.Deep.WholeRow
namespace Go.Proofs.YtoihlfiacnljhaaX
open Go.RowKit Go.Proofs.YtoihlfiacnljhaaW.PrintWords Go.Proofs.YtoihlfiacnljhaaW.PrintLast Go.Proofs.YtoihlfiacnljhaaW.PrintMore
set_option linter.unusedVariables false
set_option linter.unusedSimpArgs false
def widthF (r : Int) : Nat := if r < 0 ∨ r > 1114111 ∨ (55296 ≤ r ∧ r ≤ 57343) then 0 else if r ≤ 127 then 1 else if r ≤ 2047 then 2 else if r ≤ 65535 then 3 else 4
def leadV : Nat → Int
  | 2 => 192
  | 3 => 224
  | 4 => 240
  | _ => 0
set_option maxRecDepth 100000 in
theorem width_any (r : Int) (w : World) : Calls Try.prog 36 #[.int .i64 r] w fun e w' => e = .returned (.int .i64 (widthF r)) ∧ w' = w := by
  obtain ⟨v, hv⟩ : ∃ v, v = widthF r := ⟨_, rfl⟩
  have HV := Aside0.mk hv
  rw [← hv]
  clear hv
  by_cases h1 : r < 0
  · have e1 : v = 0 := by rw [HV.out]; unfold widthF; rw [if_pos (.inl h1)]
    subst e1
    have d1 : decide (r < 0) = true := decide_eq_true h1
    clear h1 HV
    go_enter Try.func36, Try.ntmps36
    go_wp2
    go_ret
    exact ⟨rfl, rfl⟩
  · have d1 : decide (r < 0) = false := decide_eq_false h1
    by_cases h2 : 1114111 < r
    · have e1 : v = 0 := by rw [HV.out]; unfold widthF; rw [if_pos (.inr (.inl h2))]
      subst e1
      have d2 : decide (1114111 < r) = true := decide_eq_true h2
      clear h1 h2 HV
      go_enter Try.func36, Try.ntmps36
      go_wp2
      go_ret
      exact ⟨rfl, rfl⟩
    · have d2 : decide (1114111 < r) = false := decide_eq_false h2
      by_cases h3 : 55296 ≤ r ∧ r ≤ 57343
      · have e1 : v = 0 := by rw [HV.out]; unfold widthF; rw [if_pos (.inr (.inr h3))]
        subst e1
        have d3 : decide (55296 ≤ r) = true := decide_eq_true h3.1
        have d4 : decide (r ≤ 57343) = true := decide_eq_true h3.2
        clear h1 h2 h3 HV
        go_enter Try.func36, Try.ntmps36
        go_wp2
        go_ret
        exact ⟨rfl, rfl⟩
      · have e0 : v = if r ≤ 127 then 1 else if r ≤ 2047 then 2 else if r ≤ 65535 then 3 else 4 := by rw [HV.out]; unfold widthF; rw [if_neg (by omega)]
        have HE := Aside0.mk e0
        have HX := Aside0.mk (And.intro h1 (And.intro h2 h3))
        clear h1 h2 e0 HV
        have hb : ∃ b1 b2 : Bool, decide (55296 ≤ r) = b1 ∧ decide (r ≤ 57343) = b2 ∧ (b1 && b2) = false := by
          refine ⟨_, _, rfl, rfl, ?_⟩
          by_cases x : 55296 ≤ r
          · rw [decide_eq_false (show ¬ r ≤ 57343 from fun y => h3 ⟨x, y⟩)]; simp
          · rw [decide_eq_false x]; rfl
        obtain ⟨b1, b2, d3, d4, hbb⟩ := hb
        clear h3
        by_cases k1 : r ≤ 127
        · have g1 : decide (r ≤ 127) = true := decide_eq_true k1
          have e1 := HE.out
          rw [if_pos k1] at e1
          subst e1
          clear k1 HE HX
          cases b1 <;> cases b2 <;> first | (exfalso; simp at hbb; done) | skip
          all_goals clear hbb
          all_goals go_enter Try.func36, Try.ntmps36
          all_goals go_wp2
          all_goals go_ret
          all_goals exact ⟨rfl, rfl⟩
        · have g1 : decide (r ≤ 127) = false := decide_eq_false k1
          by_cases k2 : r ≤ 2047
          · have g2 : decide (r ≤ 2047) = true := decide_eq_true k2
            have e1 := HE.out
            rw [if_neg k1, if_pos k2] at e1
            subst e1
            clear k1 k2 HE HX
            cases b1 <;> cases b2 <;> first | (exfalso; simp at hbb; done) | skip
            all_goals clear hbb
            all_goals go_enter Try.func36, Try.ntmps36
            all_goals go_wp2
            all_goals go_ret
            all_goals exact ⟨rfl, rfl⟩
          · have g2 : decide (r ≤ 2047) = false := decide_eq_false k2
            by_cases k3 : r ≤ 65535
            · have g3 : decide (r ≤ 65535) = true := decide_eq_true k3
              have e1 := HE.out
              rw [if_neg k1, if_neg k2, if_pos k3] at e1
              subst e1
              clear k1 k2 k3 HE HX
              cases b1 <;> cases b2 <;> first | (exfalso; simp at hbb; done) | skip
              all_goals clear hbb
              all_goals go_enter Try.func36, Try.ntmps36
              all_goals go_wp2
              all_goals go_ret
              all_goals exact ⟨rfl, rfl⟩
            · have g3 : decide (r ≤ 65535) = false := decide_eq_false k3
              have e1 := HE.out
              rw [if_neg k1, if_neg k2, if_neg k3] at e1
              subst e1
              clear k1 k2 k3 HE HX
              cases b1 <;> cases b2 <;> first | (exfalso; simp at hbb; done) | skip
              all_goals clear hbb
              all_goals go_enter Try.func36, Try.ntmps36
              all_goals go_wp2
              all_goals go_ret
              all_goals exact ⟨rfl, rfl⟩
theorem lead_any (n : Nat) (hn : 1 ≤ n ∧ n ≤ 4) (w : World) : Calls Try.prog 37 #[.int .i64 n] w fun e w' => e = .returned (.int .u8 (leadV n)) ∧ Below w.heap.size w w' := by
  have h := heap_alloc_last w (.cells #[.int .u8 0, .int .u8 0, .int .u8 192, .int .u8 224, .int .u8 240] 70)
  have c1 : (w.alloc (.cells #[.int .u8 0, .int .u8 0, .int .u8 192, .int .u8 224, .int .u8 240] 70)).cell? ⟨w.heap.size, n, none⟩ = some (.int .u8 (leadV n)) := by
    rw [blk_cell h n]
    have : n = 1 ∨ n = 2 ∨ n = 3 ∨ n = 4 := by omega
    rcases this with rfl | rfl | rfl | rfl <;> rfl
  have HB := Aside0.mk (show Below w.heap.size w (w.alloc (.cells #[.int .u8 0, .int .u8 0, .int .u8 192, .int .u8 224, .int .u8 240] 70)) from (Below.refl _ w).alloc (Nat.le_refl _) _)
  have hl : (n : Int) < 5 := by omega
  clear h hn
  go_enter Try.func37, Try.ntmps37
  go_wp2
  go_ret
  exact ⟨rfl, HB.out⟩
theorem ediv_step (r : Int) (h : 0 ≤ r) (k : Nat) : r / 64 ^ k / 64 = r / 64 ^ (k + 1) := by
  obtain ⟨a, rfl⟩ := Int.eq_ofNat_of_zero_le h
  rw [Int.pow_succ]
  exact_mod_cast Nat.div_div_eq_div_mul a (64 ^ k) 64
def u8s (L : List Int) : Array Value := (L.map (Value.int .u8)).toArray
theorem u8s_get (L : List Int) (i : Nat) (hi : i < L.length) : (u8s L)[i]? = some (.int .u8 L[i]) := by
  simp [u8s, hi]
theorem u8s_set (L : List Int) (i : Nat) (x : Int) : (u8s L).setIfInBounds i (.int .u8 x) = u8s (L.set i x) := by
  simp [u8s, List.map_set]
def EncPost (w : World) (s : ByteArray) (c : Int) (e : Ending) (w' : World) : Prop := e = .returned (.tuple #[.string s, .int .i64 c]) ∧ Below w.heap.size w w'
/-- The bytes of a rune of n bytes. -/
def encN (n : Nat) (r : Int) : List Int := (leadV n + r / 64 ^ (n - 1)) :: (List.range (n - 1)).map (fun i => 128 + r / 64 ^ (n - 2 - i) % 64)
theorem first_byte {n : Nat} {r q : Int} (hn : 1 ≤ n ∧ n ≤ 4) (hw : widthF r = n) (hr : 0 ≤ r ∧ r ≤ 1114111) (hq : q = r / 64 ^ (n - 1)) : (0 ≤ q ∧ q ≤ 127) ∧ bits .or .u8 (leadV n) q = leadV n + q := by
  unfold widthF at hw
  have hc : n = 1 ∨ n = 2 ∨ n = 3 ∨ n = 4 := by omega
  rcases hc with rfl | rfl | rfl | rfl
  · have e : q = r := by rw [hq]; simp
    have h1 : r ≤ 127 := by
      split at hw
      · omega
      · split at hw
        · assumption
        · split at hw
          · omega
          · split at hw <;> omega
    refine ⟨by omega, ?_⟩
    exact bits_join .u8 8 (by decide) wraps_u8 7 0 q (by decide) (by decide) (by decide) (by omega) (by omega) (by omega)
  · have e : q = r / 64 := by rw [hq]; rfl
    have h1 : r ≤ 2047 := by
      split at hw
      · omega
      · split at hw
        · omega
        · split at hw
          · assumption
          · split at hw <;> omega
    exact ⟨by omega, u8_or192 q (by omega) (by omega)⟩
  · have e : q = r / 4096 := by rw [hq]; rfl
    have h1 : r ≤ 65535 := by
      split at hw
      · omega
      · split at hw
        · omega
        · split at hw
          · omega
          · split at hw
            · assumption
            · omega
    exact ⟨by omega, u8_or224 q (by omega) (by omega)⟩
  · have e : q = r / 262144 := by rw [hq]; rfl
    exact ⟨by omega, u8_or240 q (by omega) (by omega)⟩
theorem enc_string {n : Nat} (hn : 1 ≤ n ∧ n ≤ 4) {W : World} {B : Nat} {L : List Int} (h : W.heap[B]? = some (.cells (u8s L) 54 (0, 0))) (hL : L.length = 4) :
    (convert 42 9 (.slice (some ⟨B, 0, none⟩) n 4)).run Try.prog W = .ok (.string (strOfNums (L.take n))) W := by
  refine Kd.C_string (xs := L.take n) Try.underlying42 Try.underlying5 Try.underlying9 ⟨by rw [List.length_take]; omega, by omega, fun _ => ⟨⟨B, 0, none⟩, rfl, ?_⟩⟩
  intro j p hj
  have hjn : j < n := by have := (List.getElem?_eq_some_iff.1 hj).1; rw [List.length_take] at this; omega
  refine ⟨[.int .u8 p], rfl, rfl, fun i u hi => ?_⟩
  rw [List.getElem?_take, if_pos hjn] at hj
  match i, hi with
  | 0, hi =>
    simp at hi
    subst hi
    have e : (⟨B, 0, none⟩ : Addr).add (j * (Kd.int .u8).sz + 0) = ⟨B, j, none⟩ := by
      rw [show (Kd.int .u8).sz = 1 from rfl, Nat.mul_one, Nat.add_zero]
      unfold Addr.add
      split <;> simp_all
    rw [e, blk_cell h j]
    simp [u8s, hj]
  | i + 1, hi => simp at hi
theorem enc_take {n : Nat} {r q : Int} {L : List Int} (hn : 1 ≤ n ∧ n ≤ 4) (hL : L.length = 4) (hq : q = r / 64 ^ (n - 1)) (hl : ∀ j, j < n - 1 → L[n - 1 - j]? = some (128 + r / 64 ^ j % 64)) : (L.set 0 (leadV n + q)).take n = encN n r := by
  apply List.ext_getElem?
  intro j
  rw [List.getElem?_take]
  unfold encN
  by_cases hj : j < n
  · rw [if_pos hj]
    cases j with
    | zero => rw [List.getElem?_set_self (by omega), hq]; rfl
    | succ j =>
      rw [List.getElem?_set_ne (by omega), List.getElem?_cons_succ, List.getElem?_map, List.getElem?_range (by omega)]
      have := hl (n - 2 - j) (by omega)
      rw [show n - 1 - (n - 2 - j) = j + 1 by omega] at this
      rw [this]
      rfl
  · rw [if_neg hj]
    cases j with
    | zero => omega
    | succ j =>
      rw [List.getElem?_cons_succ, List.getElem?_map, List.getElem?_eq_none (by simp; omega)]
      rfl
set_option maxHeartbeats 4000000 in
set_option maxRecDepth 100000 in
theorem encode_any (r : Int) (n : Nat) (hn : 1 ≤ n ∧ n ≤ 4) (hw : widthF r = n) (hr : 0 ≤ r ∧ r ≤ 1114111) (w : World) :
    Calls Try.prog 22 #[.int .i64 r] w (EncPost w (strOfNums (encN n r)) 0) := by
  have HWD := Aside0.mk (width_any r w)
  rw [hw] at HWD
  obtain ⟨s, hs⟩ : ∃ s, s = strOfNums (encN n r) := ⟨_, rfl⟩
  have HS := Aside0.mk hs
  rw [← hs]
  have HW := Aside0.mk hw
  have hn0 : ((n : Int) == 0) = false := by simp; omega
  clear hs hw
  go_enter Try.func22, Try.ntmps22
  go_wp2_with fail
  refine HWD.out.mono ?_
  rintro e w1 ⟨rfl, rfl⟩
  go_wp2_with fail
  have h := heap_alloc_last w1 (.cells #[.int .u8 0, .int .u8 0, .int .u8 0, .int .u8 0] 54)
  have HB0 := Aside0.mk (show Below w1.heap.size w1 (w1.alloc (.cells #[.int .u8 0, .int .u8 0, .int .u8 0, .int .u8 0] 54)) from (Below.refl _ w1).alloc (Nat.le_refl _) _)
  have HH0 := Aside0.mk (show (w1.alloc (.cells #[.int .u8 0, .int .u8 0, .int .u8 0, .int .u8 0] 54)).heap[w1.heap.size]? = some (.cells (u8s [0, 0, 0, 0]) 54 (0, 0)) from h)
  clear h
  generalize w1.alloc (.cells #[.int .u8 0, .int .u8 0, .int .u8 0, .int .u8 0] 54) = wq at HB0 HH0 ⊢
  go_loopg [0, 6] 4 (fun g s0 s6 wr => ∃ (k : Nat) (q : Int) (L : List Int), k ≤ n - 1 ∧ n - 1 - k ≤ g ∧ s0 = .int .i64 q ∧ s6 = .int .i64 ((n - 1 - k : Nat) : Int) ∧ L.length = 4 ∧ Aside0 (q = r / 64 ^ k) ∧ 0 ≤ q ∧ q ≤ 1114111 ∧ Aside0 (wr.heap[w1.heap.size]? = some (.cells (u8s L) 54 (0, 0))) ∧ Aside0 (∀ j, j < k → L[n - 1 - j]? = some (128 + r / 64 ^ j % 64)) ∧ Aside0 (Below w1.heap.size w1 wr))
  case atStart =>
    refine ⟨0, r, [0, 0, 0, 0], by omega, by omega, rfl, by rw [show (n : Int) - 1 = ((n - 1 - 0 : Nat) : Int) by omega], rfl, ⟨by simp⟩, hr.1, hr.2, HH0, ⟨fun j hj => by omega⟩, HB0⟩
  case round =>
    clear HB0 HH0
    obtain ⟨k, q, L, hk, hg, rfl, rfl, hL, HQ, hq0, hq1, HH, HL, HB⟩ := hrel
    by_cases hlt : k < n - 1
    · obtain ⟨i, hi⟩ : ∃ i, i = n - 1 - k := ⟨_, rfl⟩
      have HI := Aside0.mk hi
      rw [← hi]
      have hi4 : i < 4 := by omega
      have hi0 : 0 < i := by omega
      have HG := Aside0.mk (show k ≤ n - 1 ∧ n - 1 - k ≤ gk ∧ k < n - 1 from ⟨hk, hg, hlt⟩)
      clear hi hlt hk hg
      have m1 : bits .and .i64 q 63 = q % 64 := and_low 6 (by decide) q hq0 (by omega)
      have m2 : bits .or .i64 128 (q % 64) = 128 + q % 64 := by
        have := bits_join .i64 62 (by decide) wraps_i64 7 128 (q % 64) (by decide) (by decide) (by decide) (by omega) (by omega) (by omega)
        exact this
      have ci : wr.cell? ⟨w1.heap.size, i, none⟩ = some (.int .u8 (L[i]'(by omega))) := (blk_cell HH.out i).trans (u8s_get L i (by omega))
      have fi : wr.frozen? ⟨w1.heap.size, i, none⟩ = false := blk_frozen HH.out i
      generalize L[i]'(by omega) = old at ci
      go_wp2
      go_roundg (n - 1 - (k + 1))
      case measure => have := HG.out; omega
      case rel =>
        refine ⟨k + 1, q / 64, L.set i (128 + q % 64), by have := HG.out; omega, Nat.le_refl _, rfl, by rw [show (i : Int) - 1 = ((n - 1 - (k + 1) : Nat) : Int) by have := HI.out; omega], by rw [List.length_set]; exact hL, ⟨?_⟩, by omega, by omega, ⟨blk_put HH.out i _ (u8s_set L i _)⟩, ⟨fun j hj => ?_⟩, ⟨HB.out.setCell (p := ⟨w1.heap.size, i, none⟩) (Nat.le_refl _) _⟩⟩
        · rw [HQ.out]; exact ediv_step r hr.1 k
        · by_cases e : j = k
          · subst e
            rw [← HI.out, List.getElem?_set_self (by omega), HQ.out]
          · rw [List.getElem?_set_ne (by have := HI.out; have := HG.out; omega)]
            exact HL.out j (by omega)
    · have hk' : n - 1 - k = 0 := by omega
      rw [hk']
      have HK := Aside0.mk (show k = n - 1 by omega)
      clear hlt hk hg hk'
      have HLD := Aside0.mk (lead_any n hn wr)
      have hqb := first_byte hn HW.out hr (show q = r / 64 ^ (n - 1) by rw [HQ.out, HK.out])
      have hn4 : (n : Int) ≤ 4 := by omega
      have hn0' : (0 : Int) ≤ n := by omega
      go_wp2_with fail
      refine HLD.out.mono ?_
      rintro e w2 ⟨rfl, hb2⟩
      have hh2 := (hb2.block _ (blk_lt HH.out)).trans HH.out
      have hb3 := HB.out.trans (hb2.mono HB.out.size)
      have HB4 := Aside0.mk (hb3.setCell (p := ⟨w1.heap.size, 0, none⟩) (Nat.le_refl _) (.int .u8 (leadV n + q)))
      have c0 : w2.cell? ⟨w1.heap.size, 0, none⟩ = some (.int .u8 (L[0]'(by omega))) := (blk_cell hh2 0).trans (u8s_get L 0 (by omega))
      have f0 : w2.frozen? ⟨w1.heap.size, 0, none⟩ = false := blk_frozen hh2 0
      generalize L[0]'(by omega) = old at c0
      have hcv := enc_string hn (blk_put hh2 0 (.int .u8 (leadV n + q)) (u8s_set L 0 _)) (by rw [List.length_set]; exact hL)
      rw [enc_take hn hL (by rw [HQ.out, HK.out]) (fun j hj => HL.out j (by rw [HK.out]; exact hj)), ← HS.out] at hcv
      have m1 := hqb.2
      have m2 : IntKind.u8.wrap q = q := by rw [IntKind.wrap_u8]; omega
      have m3 : q % 256 = q := by omega
      clear hh2 hb2 hb3 HLD
      go_wp2
      go_ret2
      exact ⟨rfl, HB4.out⟩
theorem encode_bad (r : Int) (hr : widthF r = 0) (w : World) : Calls Try.prog 22 #[.int .i64 r] w (EncPost w ⟨#[]⟩ 1) := by
  have HWD := Aside0.mk (width_any r w)
  rw [hr] at HWD
  clear hr
  go_enter Try.func22, Try.ntmps22
  go_wp2_with fail
  refine HWD.out.mono ?_
  rintro e w1 ⟨rfl, rfl⟩
  go_wp2
  go_ret2
  exact ⟨rfl, Below.refl _ _⟩
end Go.Proofs.YtoihlfiacnljhaaX
