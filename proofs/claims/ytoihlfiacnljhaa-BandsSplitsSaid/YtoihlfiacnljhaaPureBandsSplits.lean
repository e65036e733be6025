/- BandsSplits: Split and Of by the reference; the argument is kept; no condition. -/
import Derived.Test.YtoihlfiacnljhaaHBandsSplitsx9
import Derived.Test.YtoihlfiacnljhaaHBandsSplitsx7
import Derived.Test.YtoihlfiacnljhaaXRangesEdge
import Derived.Test.YtoihlfiacnljhaaXRangesLend
import Derived.Test.YtoihlfiacnljhaaXBandsRev
namespace Go.Proofs.Ytoihlfiacnljhaa.Pure
open Go.RowKit Go.Proofs.Ytoihlfiacnljhaa.HBandsSplits Go.Proofs.YtoihlfiacnljhaaW.PrintWords Go.Proofs.YtoihlfiacnljhaaW.PrintLast
open Go.Proofs.YtoihlfiacnljhaaX
set_option linter.unusedVariables false
set_option linter.unusedSimpArgs false
theorem wrap_to {x y : Int} (e : x = y) (h0 : -9223372036854775808 ≤ y) (h1 : y ≤ 9223372036854775807) : wrap64 x = y := by
  subst e
  exact wrap_in h0 h1
theorem rwidth_f (k : Nat) (r : Int) : burinref01_Width.f (k + 1) r = some (widthF r : Int) := by
  simp only [burinref01_Width.f, burinref01_Width.j0, widthF]
  by_cases h1 : r < 0
  · simp [h1]
  · by_cases h2 : r > 1114111
    · simp [h1, h2]
    · by_cases h3 : r ≥ 55296
      · by_cases h4 : r ≤ 57343
        · simp [h1, h2, h3, h4]
        · have h5 : ¬ r ≤ 127 := by omega
          have h6 : ¬ r ≤ 2047 := by omega
          have h5' : ¬ r < 128 := by omega
          have h6' : ¬ r < 2048 := by omega
          by_cases h7 : r ≤ 65535
          · have h7' : r < 65536 := by omega
            simp [h1, h2, h3, h4, h5, h6, h7, h5', h6', h7']
          · have h7' : ¬ r < 65536 := by omega
            simp [h1, h2, h3, h4, h5, h6, h7, h5', h6', h7']
      · have h4 : ¬ (r < 0 ∨ r > 1114111 ∨ (55296 ≤ r ∧ r ≤ 57343)) := by omega
        rw [if_neg h1, if_neg h2, if_neg h3, if_neg h4, if_neg (by decide)]
        by_cases h5 : r ≤ 127
        · rw [if_pos (show r < 128 by omega), if_pos h5]; rfl
        · rw [if_neg (show ¬ r < 128 by omega), if_neg h5]
          by_cases h6 : r ≤ 2047
          · rw [if_pos (show r < 2048 by omega), if_pos h6]; rfl
          · rw [if_neg (show ¬ r < 2048 by omega), if_neg h6]
            by_cases h7 : r ≤ 65535
            · rw [if_pos (show r < 65536 by omega), if_pos h7]; rfl
            · rw [if_neg (show ¬ r < 65536 by omega), if_neg h7]; rfl
theorem tdiv_pos (a b : Int) (h : 0 ≤ a) : Int.tdiv a b = a / b := Int.tdiv_eq_ediv_of_nonneg h
theorem tmod_pos (a b : Int) (h : 0 ≤ a) : Int.tmod a b = a % b := Int.tmod_eq_emod_of_nonneg h
theorem renc_f (k : Nat) (r : Int) : burinref01_Encode.f (k + 1) r = some (if widthF r = 0 then ((⟨#[]⟩ : ByteArray), 1) else (strOfNums (encN (widthF r) r), 0)) := by
  simp only [burinref01_Encode.f, rwidth_f, Option.bind_some]
  by_cases h0 : widthF r = 0
  · rw [h0]; rfl
  · rw [if_neg h0, if_neg (show ¬ (widthF r : Int) = 0 by omega)]
    rcases widthF_eq rfl (show 1 ≤ widthF r by omega) with ⟨e, h⟩ | ⟨e, h⟩ | ⟨e, h⟩ | ⟨e, h⟩ <;> rw [e]
    · rw [if_pos (by decide), enc1, show r % 256 = r by omega]
    · rw [if_neg (by decide), if_pos (by decide), enc2, tdiv_pos r 64 (by omega), tmod_pos r 64 (by omega)]
      rw [wrap_in (x := r / 64) (by omega) (by omega), wrap_in (x := 192 + r / 64) (by omega) (by omega), wrap_in (x := 128 + r % 64) (by omega) (by omega), show (192 + r / 64) % 256 = 192 + r / 64 by omega, show (128 + r % 64) % 256 = 128 + r % 64 by omega]
    · rw [if_neg (by decide), if_neg (by decide), if_pos (by decide), enc3, tdiv_pos r 4096 (by omega), tdiv_pos r 64 (by omega), tmod_pos r 64 (by omega)]
      rw [wrap_in (x := r / 64) (by omega) (by omega), tmod_pos (r / 64) 64 (by omega), wrap_in (x := r / 4096) (by omega) (by omega), wrap_in (x := 224 + r / 4096) (by omega) (by omega), wrap_in (x := 128 + r % 64) (by omega) (by omega), wrap_in (x := 128 + r / 64 % 64) (by omega) (by omega), show (224 + r / 4096) % 256 = 224 + r / 4096 by omega, show (128 + r % 64) % 256 = 128 + r % 64 by omega, show (128 + r / 64 % 64) % 256 = 128 + r / 64 % 64 by omega]
    · rw [if_neg (by decide), if_neg (by decide), if_neg (by decide), enc4, tdiv_pos r 262144 (by omega), tdiv_pos r 4096 (by omega), tdiv_pos r 64 (by omega), tmod_pos r 64 (by omega)]
      rw [wrap_in (x := r / 64) (by omega) (by omega), wrap_in (x := r / 4096) (by omega) (by omega), tmod_pos (r / 4096) 64 (by omega), tmod_pos (r / 64) 64 (by omega), wrap_in (x := r / 262144) (by omega) (by omega), wrap_in (x := 240 + r / 262144) (by omega) (by omega), wrap_in (x := 128 + r % 64) (by omega) (by omega), wrap_in (x := 128 + r / 64 % 64) (by omega) (by omega), wrap_in (x := 128 + r / 4096 % 64) (by omega) (by omega)]
      rw [show (240 + r / 262144) % 256 = 240 + r / 262144 by omega, show (128 + r % 64) % 256 = 128 + r % 64 by omega, show (128 + r / 64 % 64) % 256 = 128 + r / 64 % 64 by omega, show (128 + r / 4096 % 64) % 256 = 128 + r / 4096 % 64 by omega]
theorem said_f (s : ByteArray) (n : Nat) (h1 : 1 ≤ n) (h4 : n ≤ 4) (hs : n ≤ s.size) : burinref01_said.f s n = some (saidV s n) := by
  have b0 := byteI_in s 0
  have b1 := byteI_in s 1
  have b2 := byteI_in s 2
  have b3 := byteI_in s 3
  have e0 : bt s 0 = byteI s 0 := bt_byteI s 0
  have e1 : bt s 1 = byteI s 1 := bt_byteI s 1
  have e2 : bt s 2 = byteI s 2 := bt_byteI s 2
  have e3 : bt s 3 = byteI s 3 := bt_byteI s 3
  unfold burinref01_said.f
  have hc : n = 1 ∨ n = 2 ∨ n = 3 ∨ n = 4 := by omega
  rcases hc with rfl | rfl | rfl | rfl
  · rw [if_pos (by decide), if_pos (by omega), e0, wrap_in (x := byteI s 0) (by omega) (by omega)]; rfl
  · rw [if_neg (by decide), if_pos (by decide), if_pos (by omega), if_pos (by omega), e0, e1]
    rw [wrap_in (x := byteI s 0) (by omega) (by omega), wrap_in (x := byteI s 1) (by omega) (by omega), tmod_pos (byteI s 0) 32 b0.1, tmod_pos (byteI s 1) 64 b1.1, wrap_in (x := byteI s 0 % 32 * 64) (by omega) (by omega), wrap_in (by omega) (by omega)]; rfl
  · rw [if_neg (by decide), if_neg (by decide), if_pos (by decide), if_pos (by omega), if_pos (by omega), if_pos (by omega), e0, e1, e2]
    rw [wrap_in (x := byteI s 0) (by omega) (by omega), wrap_in (x := byteI s 1) (by omega) (by omega), wrap_in (x := byteI s 2) (by omega) (by omega), tmod_pos (byteI s 0) 16 b0.1, tmod_pos (byteI s 1) 64 b1.1, tmod_pos (byteI s 2) 64 b2.1, wrap_in (x := byteI s 0 % 16 * 4096) (by omega) (by omega), wrap_in (x := byteI s 1 % 64 * 64) (by omega) (by omega), wrap_in (x := byteI s 0 % 16 * 4096 + byteI s 1 % 64 * 64) (by omega) (by omega), wrap_in (by omega) (by omega)]; rfl
  · rw [if_neg (by decide), if_neg (by decide), if_neg (by decide), if_pos (by omega), if_pos (by omega), if_pos (by omega), if_pos (by omega), e0, e1, e2, e3]
    rw [wrap_in (x := byteI s 0) (by omega) (by omega), wrap_in (x := byteI s 1) (by omega) (by omega), wrap_in (x := byteI s 2) (by omega) (by omega), wrap_in (x := byteI s 3) (by omega) (by omega), tmod_pos (byteI s 0) 8 b0.1, tmod_pos (byteI s 1) 64 b1.1, tmod_pos (byteI s 2) 64 b2.1, tmod_pos (byteI s 3) 64 b3.1, wrap_in (x := byteI s 0 % 8 * 262144) (by omega) (by omega), wrap_in (x := byteI s 1 % 64 * 4096) (by omega) (by omega), wrap_in (x := byteI s 2 % 64 * 64) (by omega) (by omega), wrap_in (x := byteI s 0 % 8 * 262144 + byteI s 1 % 64 * 4096) (by omega) (by omega), wrap_in (x := byteI s 0 % 8 * 262144 + byteI s 1 % 64 * 4096 + byteI s 2 % 64 * 64) (by omega) (by omega), wrap_in (by omega) (by omega)]; rfl
theorem rdec_j1 (s : ByteArray) (n : Nat) (h1 : 1 ≤ n) (h4 : n ≤ 4) (hs : n ≤ s.size) (hno : ∀ r, widthF r = n → ¬ Starts s n r) {v : Int × Int} (h : Ev (fun k => burinref01_Decode.l0 k s ((n + 1 : Nat) : Int)) v) : Ev (fun k => burinref01_Decode.j1 k s n true) v := by
  have e : wrap64 ((n : Int) + 1) = ((n + 1 : Nat) : Int) := wrap_to (by omega) (by omega) (by omega)
  obtain ⟨K, hK⟩ := h
  refine ⟨K + 2, fun k hk => ?_⟩
  obtain ⟨k, rfl⟩ : ∃ j, k = j + 2 := ⟨k - 2, by omega⟩
  have hl := hK (k + 1) (by omega)
  simp only [burinref01_Decode.j1]
  rw [if_pos trivial, said_f s n h1 h4 hs]
  simp only [Option.bind_some, renc_f]
  by_cases h0 : widthF (saidV s n) = 0
  · rw [if_pos h0]
    simp only [if_neg (show ¬ (1 : Int) = 0 by decide), e]
    exact hl
  · rw [if_neg h0]
    simp only [if_true, if_pos (show 0 ≤ (n : Int) by omega), if_pos (show (n : Int) ≤ (s.size : Int) by omega)]
    rw [if_neg, e]
    · exact hl
    · intro he
      have h2 := (starts_text h0 hs).1 (by rw [Int.toNat_natCast] at he; exact he)
      exact hno _ h2.1 h2.2
theorem rdec_yes (s : ByteArray) (n : Nat) (h1 : 1 ≤ n) (h4 : n ≤ 4) (r : Int) (hr : widthF r = n) (hst : Starts s n r) : Ev (fun k => burinref01_Decode.j1 k s n true) (r, (n : Int)) := by
  have hs := hst.1
  refine ⟨2, fun k hk => ?_⟩
  obtain ⟨k, rfl⟩ : ∃ j, k = j + 2 := ⟨k - 2, by omega⟩
  have hsd := said_starts hr h1 hst
  simp only [burinref01_Decode.j1]
  rw [if_pos trivial, said_f s n h1 h4 hs]
  simp only [Option.bind_some, renc_f, hsd]
  have h0 : widthF r ≠ 0 := by omega
  rw [if_neg h0]
  simp only [if_true, if_pos (show 0 ≤ (n : Int) by omega), if_pos (show (n : Int) ≤ (s.size : Int) by omega)]
  rw [if_pos]
  rw [Int.toNat_natCast]
  exact (starts_text h0 hs).2 ⟨hr, hst⟩
theorem rdec_l0 (s : ByteArray) (h0 : s.size ≠ 0) (d : Nat) : ∀ n : Nat, n + d = 5 → 1 ≤ n → (∀ m, 1 ≤ m → m < n → ∀ r, widthF r = m → ¬ Starts s m r) → Ev (fun k => burinref01_Decode.l0 k s n) (decV s) := by
  have hbad : ∀ n : Nat, (∀ m, 1 ≤ m → m < n → ∀ r, widthF r = m → ¬ Starts s m r) → (4 < n ∨ s.size < n) → decV s = (-1, 1) := by
    intro n hn hc
    rcases decV_cases s with ⟨h, _⟩ | ⟨_, h, _⟩ | ⟨r, h1, h2, _⟩
    · exact absurd h h0
    · exact h
    · exfalso
      have hw := (width_in (show widthF r ≠ 0 by omega)).1
      have := h2.1
      exact hn (widthF r) h1 (by omega) r rfl h2
  induction d with
  | zero =>
    intro n hn h1 hno
    rw [hbad n hno (.inl (by omega))]
    refine Ev.step (f := fun k => burinref01_Decode.j1 k s n false) (fun k => ?_) (Ev.step (f := fun _ => some (-1, 1)) (fun k => ?_) (Ev.now _))
    · simp only [burinref01_Decode.l0]
      rw [if_neg (by omega)]
    · simp only [burinref01_Decode.j1]
      rw [if_neg (by decide)]
  | succ d ih =>
    intro n hn h1 hno
    by_cases hs : n ≤ s.size
    · refine Ev.step (f := fun k => burinref01_Decode.j1 k s n true) (fun k => ?_) ?_
      · simp only [burinref01_Decode.l0]
        rw [if_pos (by omega), decide_eq_true (by omega)]
      · by_cases hst : ∃ r, widthF r = n ∧ Starts s n r
        · obtain ⟨r, hr, hst⟩ := hst
          rw [decV_starts hr h1 hst]
          exact rdec_yes s n h1 (by omega) r hr hst
        · have hno' : ∀ r, widthF r = n → ¬ Starts s n r := fun r hr h => hst ⟨r, hr, h⟩
          refine rdec_j1 s n h1 (by omega) hs hno' (ih (n + 1) (by omega) (by omega) fun m hm1 hm2 r hr => ?_)
          by_cases e : m = n
          · subst e; exact hno' r hr
          · exact hno m hm1 (by omega) r hr
    · rw [hbad n hno (.inr (by omega))]
      refine Ev.step (f := fun k => burinref01_Decode.j1 k s n false) (fun k => ?_) (Ev.step (f := fun _ => some (-1, 1)) (fun k => ?_) (Ev.now _))
      · simp only [burinref01_Decode.l0]
        rw [if_pos (by omega), decide_eq_false (by omega)]
      · simp only [burinref01_Decode.j1]
        rw [if_neg (by decide)]
theorem rdec_ev (s : ByteArray) : Ev (fun k => burinref01_Decode.f k s) (decV s) := by
  unfold burinref01_Decode.f
  by_cases h0 : s.size = 0
  · have e : s.toList = ([] : List UInt8) := by
      rw [ByteArray.toList_eq]
      exact List.length_eq_zero_iff.1 (by simpa using h0)
    simp only [if_pos e]
    unfold decV
    rw [if_pos h0]
    exact Ev.now _
  · have e : ¬ s.toList = ([] : List UInt8) := by
      intro e
      rw [ByteArray.toList_eq] at e
      have := congrArg List.length e
      rw [Array.length_toList] at this
      exact h0 this
    simp only [if_neg e]
    exact rdec_l0 s h0 4 1 (by omega) (by omega) (fun m h1 h2 => by omega)
theorem str_list (L : List Int) : (strOfNums L).toList = L.map fun n => UInt8.ofNat n.toNat := by
  rw [ByteArray.toList_eq]
  rfl
theorem str_cut (L : List Int) (m : Nat) : ((strOfNums L).extract 0 m).toList = (L.take m).map fun n => UInt8.ofNat n.toNat := by
  rw [ByteArray.toList_eq, ByteArray.data_extract]
  simp [strOfNums, List.extract_eq_take_drop, List.map_take]
theorem map_inj : ∀ {L M : List Int}, (∀ x ∈ L, 0 ≤ x ∧ x ≤ 255) → (∀ x ∈ M, 0 ≤ x ∧ x ≤ 255) → ((L.map fun n => UInt8.ofNat n.toNat) = M.map fun n => UInt8.ofNat n.toNat) → L = M := by
  intro L M hL hM h
  have h1 := (nums_eq hL _).1 h
  have h2 := (nums_eq hM (M.map fun n => UInt8.ofNat n.toNat)).1 rfl
  rw [h1, ← h2]
theorem all_l0 (L : List Int) (hL : ∀ x ∈ L, 0 ≤ x ∧ x ≤ 255) (hn : L.length ≤ 1000) (c : Int) (d : Nat) : ∀ j : Nat, j + d = L.length → Ev (fun k => burinref05_all.l0 k (strOfNums L) c j) ((L.drop j).all (· == c)) := by
  induction d with
  | zero =>
    intro j hj
    refine Ev.step (f := fun _ => some true) (fun k => ?_) ?_
    · simp only [burinref05_all.l0]
      rw [strOfNums_size, if_neg (by omega)]
    · rw [List.drop_of_length_le (by omega)]
      exact Ev.now _
  | succ d ih =>
    intro j hj
    have hlt : j < L.length := by omega
    rw [List.drop_eq_getElem_cons hlt, List.all_cons]
    have hstep : ∀ k, burinref05_all.l0 (k + 1) (strOfNums L) c j = if L[j] = c then burinref05_all.l0 k (strOfNums L) c ((j + 1 : Nat) : Int) else some false := by
      intro k
      simp only [burinref05_all.l0]
      rw [strOfNums_size, if_pos (by omega), if_pos (by omega), bt_byteI, byteI_num hL j hlt, wrap_to (x := (j : Int) + 1) (y := ((j + 1 : Nat) : Int)) (by omega) (by omega) (by omega)]
    by_cases h : L[j] = c
    · rw [show (L[j] == c) = true by simp [h], Bool.true_and]
      exact Ev.step (fun k => by rw [hstep k, if_pos h]) (ih (j + 1) (by omega))
    · rw [show (L[j] == c) = false by simp [h], Bool.false_and]
      exact Ev.step (f := fun _ => some false) (fun k => by rw [hstep k, if_neg h]) (Ev.now _)
theorem all_ev (L : List Int) (hL : ∀ x ∈ L, 0 ≤ x ∧ x ≤ 255) (hn : L.length ≤ 1000) (c : Int) (i : Nat) (hi : i ≤ L.length) : Ev (fun k => burinref05_all.f k (strOfNums L) i c) ((L.drop (L.length - i)).all (· == c)) := by
  have := all_l0 L hL hn c i (L.length - i) (by omega)
  unfold burinref05_all.f
  rw [strOfNums_size, wrap_to (x := (L.length : Int) - i) (y := ((L.length - i : Nat) : Int)) (by omega) (by omega) (by omega)]
  exact this
theorem filled_ev (L : List Int) (hL : ∀ x ∈ L, 0 ≤ x ∧ x ≤ 255) (hn : L.length ≤ 1000) (c : Int) (hc : 0 ≤ c ∧ c ≤ 255) (i : Nat) (hi : i ≤ L.length) {m : Int} (hm : widthF m ≠ 0) (hF : fillL (strOfNums L) i c = encN (widthF m) m) : Ev (fun k => burinref05_filled.f k (strOfNums L) i c) m := by
  unfold burinref05_filled.f
  simp only [if_pos (show 0 ≤ (i : Int) ∧ (i : Int) ≤ ((strOfNums L).size : Int) ∧ (strOfNums L).size ≤ 1000 ∧ 0 ≤ c ∧ c ≤ 255 from ⟨by omega, by rw [strOfNums_size]; omega, by rw [strOfNums_size]; omega, hc.1, hc.2⟩), Int.toNat_natCast, hF]
  refine Ev.bind (rdec_ev _) ?_
  rw [decV_starts rfl (by omega) (starts_nums0 hm)]
  exact Ev.now _
theorem fill_eq {L : List Int} (hL : ∀ x ∈ L, 0 ≤ x ∧ x ≤ 255) (i : Nat) (hi : i ≤ L.length) (c : Int) : fillL (strOfNums L) i c = L.take (L.length - i) ++ List.replicate i c := by
  unfold fillL
  rw [strOfNums_size]
  apply List.ext_getElem
  · simp; omega
  intro j h1 h2
  have hj : j < L.length := by simpa using h1
  simp only [List.getElem_map, List.getElem_range]
  by_cases h : L.length - i ≤ j
  · rw [if_pos h, List.getElem_append_right (by rw [List.length_take]; omega)]
    simp
  · rw [if_neg h, List.getElem_append_left (by rw [List.length_take]; omega), List.getElem_take, byteI_num hL j hj]
/-- What one step over a prefix comes to. -/
structure Lev (n i : Nat) (lo hi P : Int) : Prop where
  inr : 1 ≤ i ∧ i < n
  pre : ((encN n lo).take (n - i) = (encN n hi).take (n - i)) ↔ lo - lo % P = hi - hi % P
  alo : ((encN n lo).drop (n - i)).all (· == 128) = decide (lo % P = 0)
  ahi : ((encN n hi).drop (n - i)).all (· == 191) = decide (hi % P = P - 1)
  flo : (encN n lo).take (n - i) ++ List.replicate i 191 = encN n (lo - lo % P + (P - 1))
  fhi : (encN n hi).take (n - i) ++ List.replicate i 128 = encN n (hi - hi % P)
theorem lev21 {lo hi : Int} (hw : OneW 2 lo hi) : Lev 2 1 lo hi 64 := by
  have h := hw.w2 rfl
  have hle := hw.le
  refine ⟨by omega, ?_, ?_, ?_, ?_, ?_⟩
  · simp only [enc2]; simp; omega
  · rw [Bool.eq_iff_iff]; simp only [enc2]; simp; omega
  · rw [Bool.eq_iff_iff]; simp only [enc2]; simp; omega
  · simp only [enc2]; simp [List.replicate]; omega
  · simp only [enc2]; simp [List.replicate]; omega
theorem lev31 {lo hi : Int} (hw : OneW 3 lo hi) : Lev 3 1 lo hi 64 := by
  have h := hw.w3 rfl
  have hle := hw.le
  refine ⟨by omega, ?_, ?_, ?_, ?_, ?_⟩
  · simp only [enc3]; simp; omega
  · rw [Bool.eq_iff_iff]; simp only [enc3]; simp; omega
  · rw [Bool.eq_iff_iff]; simp only [enc3]; simp; omega
  · simp only [enc3]; simp [List.replicate]; omega
  · simp only [enc3]; simp [List.replicate]; omega
theorem lev32 {lo hi : Int} (hw : OneW 3 lo hi) : Lev 3 2 lo hi 4096 := by
  have h := hw.w3 rfl
  have hle := hw.le
  refine ⟨by omega, ?_, ?_, ?_, ?_, ?_⟩
  · simp only [enc3]; simp; omega
  · rw [Bool.eq_iff_iff]; simp only [enc3]; simp; omega
  · rw [Bool.eq_iff_iff]; simp only [enc3]; simp; omega
  · simp only [enc3]; simp [List.replicate]; omega
  · simp only [enc3]; simp [List.replicate]; omega
theorem lev41 {lo hi : Int} (hw : OneW 4 lo hi) : Lev 4 1 lo hi 64 := by
  have h := hw.w4 rfl
  have hle := hw.le
  refine ⟨by omega, ?_, ?_, ?_, ?_, ?_⟩
  · simp only [enc4]; simp; omega
  · rw [Bool.eq_iff_iff]; simp only [enc4]; simp; omega
  · rw [Bool.eq_iff_iff]; simp only [enc4]; simp; omega
  · simp only [enc4]; simp [List.replicate]; omega
  · simp only [enc4]; simp [List.replicate]; omega
theorem lev42 {lo hi : Int} (hw : OneW 4 lo hi) : Lev 4 2 lo hi 4096 := by
  have h := hw.w4 rfl
  have hle := hw.le
  refine ⟨by omega, ?_, ?_, ?_, ?_, ?_⟩
  · simp only [enc4]; simp; omega
  · rw [Bool.eq_iff_iff]; simp only [enc4]; simp; omega
  · rw [Bool.eq_iff_iff]; simp only [enc4]; simp; omega
  · simp only [enc4]; simp [List.replicate]; omega
  · simp only [enc4]; simp [List.replicate]; omega
theorem lev43 {lo hi : Int} (hw : OneW 4 lo hi) : Lev 4 3 lo hi 262144 := by
  have h := hw.w4 rfl
  have hle := hw.le
  refine ⟨by omega, ?_, ?_, ?_, ?_, ?_⟩
  · simp only [enc4]; simp; omega
  · rw [Bool.eq_iff_iff]; simp only [enc4]; simp; omega
  · rw [Bool.eq_iff_iff]; simp only [enc4]; simp; omega
  · simp only [enc4]; simp [List.replicate]; omega
  · simp only [enc4]; simp [List.replicate]; omega
theorem rhas_l0 (s : List (Int × Int)) (r : Int) (hn : s.length ≤ 900000) (d : Nat) : ∀ i : Nat, i ≤ s.length → s.length - i = d → Ev (fun k => burinref02_Has.l0 k (s.map toRg) r i) (hasL (s.drop i) r) := by
  induction d with
  | zero =>
    intro i hi hd
    have e : i = s.length := by omega
    subst e
    rw [List.drop_of_length_le (Nat.le_refl _)]
    refine Ev.step (f := fun k => burinref02_Has.j1 k (s.map toRg) r (s.length : Int) false) (fun k => ?_) (Ev.step (fun k => ?_) (Ev.now _))
    · simp only [burinref02_Has.l0]
      rw [if_neg (by simp)]
    · simp only [burinref02_Has.j1]
      rw [if_neg (by simp)]
      unfold hasL
      rw [inL_nil]
      simp
  | succ d ih =>
    intro i hi hd
    have hlt : i < s.length := by omega
    have h0 : ∀ k, burinref02_Has.l0 (k + 1) (s.map toRg) r i = burinref02_Has.j1 k (s.map toRg) r (i : Int) (decide (0 ≤ r ∧ r ≤ 1114111)) := by
      intro k
      simp only [burinref02_Has.l0]
      rw [if_pos (by simp; omega)]
      by_cases c : r ≥ 0
      · rw [if_pos c]
        congr 1
        rw [decide_eq_decide]
        omega
      · rw [if_neg c, decide_eq_false (by omega)]
    by_cases c : 0 ≤ r ∧ r ≤ 1114111
    · have hd' : hasL (s.drop i) r = ((decide (s[i].1 ≤ r) && decide (r ≤ s[i].2)) || hasL (s.drop (i + 1)) r) := by
        unfold hasL
        rw [decide_eq_true c.1, decide_eq_true c.2, List.drop_eq_getElem_cons hlt, inL_cons]
        rfl
      rw [hd']
      have hr := ih (i + 1) (by omega) (by omega)
      have h1 : ∀ k, burinref02_Has.j1 (k + 1) (s.map toRg) r (i : Int) true = if s[i].1 ≤ r ∧ r ≤ s[i].2 then some true else burinref02_Has.l0 k (s.map toRg) r ((i + 1 : Nat) : Int) := by
        intro k
        simp only [burinref02_Has.j1]
        rw [if_pos trivial, if_pos (by omega), if_pos (by simp; omega), rd_rg s i hlt, wrap_rg (x := (i : Int) + 1) (by omega) (by omega), show (i : Int) + 1 = ((i + 1 : Nat) : Int) by omega]
        rw [show (toRg s[i]).f0 = s[i].1 from rfl, show (toRg s[i]).f1 = s[i].2 from rfl]
        by_cases a : s[i].1 ≤ r
        · by_cases b : r ≤ s[i].2
          · rw [if_pos a, if_pos b, if_pos ⟨a, b⟩]
          · rw [if_pos a, if_neg b, if_neg (fun h => b h.2)]
        · rw [if_neg a, if_neg (fun h => a h.1)]
      rw [decide_eq_true c] at h0
      by_cases q : s[i].1 ≤ r ∧ r ≤ s[i].2
      · rw [decide_eq_true q.1, decide_eq_true q.2]
        exact Ev.step h0 (Ev.step (fun k => by rw [h1 k, if_pos q]; rfl) (Ev.now _))
      · have : (decide (s[i].1 ≤ r) && decide (r ≤ s[i].2)) = false := by
          rw [← Bool.not_eq_true, Bool.and_eq_true, decide_eq_true_eq, decide_eq_true_eq]
          exact q
        rw [this, Bool.false_or]
        exact Ev.step h0 (Ev.step (fun k => by rw [h1 k, if_neg q]) hr)
    · rw [decide_eq_false c] at h0
      refine Ev.step h0 (Ev.step (fun k => ?_) (Ev.now _))
      simp only [burinref02_Has.j1]
      rw [if_neg (by simp)]
      have : hasL (s.drop i) r = false := by
        unfold hasL
        by_cases c1 : 0 ≤ r
        · rw [decide_eq_false (show ¬ r ≤ 1114111 by omega)]; simp
        · rw [decide_eq_false c1]; simp
      rw [this]
theorem rhas_ev (s : List (Int × Int)) (r : Int) (hn : s.length ≤ 900000) : Ev (fun k => burinref02_Has.f k (s.map toRg) r) (hasL s r) := by
  have := rhas_l0 s r hn _ 0 (Nat.zero_le _) rfl
  unfold burinref02_Has.f
  simpa using this
theorem edge_l0 (s : List (Int × Int)) (at_ : Int) (h0 : 0 ≤ at_) (hn : s.length ≤ 900000) (d : Nat) : ∀ (i : Nat) (n : Int), i ≤ s.length → s.length - i = d → Ev (fun k => burinref02_edge.l0 k (s.map toRg) at_ n i) (edgeG at_ n (s.drop i)) := by
  induction d with
  | zero =>
    intro i n hi hd
    have e : i = s.length := by omega
    subst e
    rw [List.drop_of_length_le (Nat.le_refl _)]
    refine Ev.step (fun k => ?_) (Ev.now _)
    simp only [burinref02_edge.l0]
    rw [if_neg (by simp)]
    rfl
  | succ d ih =>
    intro i n hi hd
    have hlt : i < s.length := by omega
    rw [List.drop_eq_getElem_cons hlt, edgeG]
    have h1 : ∀ k, burinref02_edge.l0 (k + 1) (s.map toRg) at_ n i = burinref02_edge.j1 k (s.map toRg) at_ n i (decide (s[i].1 > at_ ∧ s[i].1 < n)) := by
      intro k
      simp only [burinref02_edge.l0]
      rw [if_pos (by simp; omega), if_pos (by omega), rd_rg s i hlt, show (toRg s[i]).f0 = s[i].1 from rfl]
      by_cases c : s[i].1 > at_
      · rw [if_pos c]
        congr 1
        rw [decide_eq_decide]
        omega
      · rw [if_neg c, decide_eq_false (by omega)]
    refine Ev.step h1 (Ev.step (fun k => ?_) (ih (i + 1) (edgeS at_ n s[i]) (by omega) (by omega)))
    have hw : at_ ≤ s[i].2 → s[i].2 < 1114111 → wrap64 (s[i].2 + 1) = s[i].2 + 1 := fun a b => wrap_rg (by omega) (by omega)
    simp only [burinref02_edge.j1]
    rw [rd_rg s i hlt, show (toRg s[i]).f0 = s[i].1 from rfl, show (toRg s[i]).f1 = s[i].2 from rfl, wrap_rg (x := (i : Int) + 1) (by omega) (by omega), show (i : Int) + 1 = ((i + 1 : Nat) : Int) by omega]
    have hi0 : (0 : Int) ≤ (i : Int) := by omega
    have hi1 : (i : Int) < ((s.map toRg).length : Int) := by simp; omega
    simp only [if_pos hi0, if_pos hi1, edgeS]
    by_cases c : s[i].1 > at_ ∧ s[i].1 < n
    · rw [decide_eq_true c]
      simp only [if_pos c, if_true]
      by_cases a : s[i].2 ≥ at_
      · rw [if_pos a]
        by_cases b : s[i].2 < 1114111
        · rw [if_pos b, hw a b]
          by_cases e : s[i].2 + 1 < s[i].1
          · rw [if_pos e, if_pos ⟨a, b, e⟩]
          · rw [if_neg e, if_neg (fun h => e h.2.2)]
        · rw [if_neg b, if_neg (fun h => b h.2.1)]
      · rw [if_neg a, if_neg (fun h => a h.1)]
    · rw [decide_eq_false c]
      simp only [if_neg c]
      rw [if_neg (by simp)]
      by_cases a : s[i].2 ≥ at_
      · rw [if_pos a]
        by_cases b : s[i].2 < 1114111
        · rw [if_pos b, hw a b]
          by_cases e : s[i].2 + 1 < n
          · rw [if_pos e, if_pos ⟨a, b, e⟩]
          · rw [if_neg e, if_neg (fun h => e h.2.2)]
        · rw [if_neg b, if_neg (fun h => b h.2.1)]
      · rw [if_neg a, if_neg (fun h => a h.1)]
theorem edge_ev (s : List (Int × Int)) (at_ : Int) (h0 : 0 ≤ at_) (hn : s.length ≤ 900000) : Ev (fun k => burinref02_edge.f k (s.map toRg) at_) (edgeL s at_) := by
  have := edge_l0 s at_ h0 hn _ 0 1114112 (Nat.zero_le _) rfl
  unfold burinref02_edge.f edgeL
  simpa using this
/-- The three ways of making. -/
def madeBy (op : Int) (x y : Bool) : Bool := (decide (op = 1) && (x || y)) || ((decide (op = 2) && (x && y)) || (decide (op = 3) && (x && !y)))
theorem make_j2 (op : Int) (a b : List (Int × Int)) (G : Int → Bool) (p : List (Int × Int)) (at_ next : Int) (hU : Upto G at_ p) (h0 : 0 ≤ at_) (h1 : at_ < next) (h2 : next ≤ 1114112) (hG : ∀ r, at_ ≤ r → r < next → G r = G at_) :
    ∃ q, Upto G next q ∧ ∀ k, burinref02_Make.j2 (k + 1) op (a.map toRg) (b.map toRg) (p.map toRg) at_ next (G at_) = burinref02_Make.l0 k op (a.map toRg) (b.map toRg) (q.map toRg) next := by
  by_cases g : G at_ = true
  · rw [g] at hG
    have hlen := nrm_len hU.nrm
    have happ : (p.map toRg).length < 8796093022208 := by simp; omega
    rcases List.eq_nil_or_concat p with rfl | ⟨p', c, rfl⟩
    · refine ⟨[(at_, next - 1)], hU.more h0 h1 h2 hG (fun x hx => by cases hx), fun k => ?_⟩
      simp only [burinref02_Make.j2]
      rw [g, if_pos rfl, if_neg (by simp), if_pos happ, wrap_rg (x := next - 1) (by omega) (by omega)]
      rfl
    · rw [List.concat_eq_append] at *
      have hl : (((p' ++ [c]).map toRg).length : Int) = p'.length + 1 := by simp
      have hp' : p'.length + 1 ≤ 1114112 := by simpa using hlen
      have hlast : rd_T41 ((p' ++ [c]).map toRg) (p'.length : Int) = toRg c := by
        rw [rd_rg (p' ++ [c]) p'.length (by simp)]; simp
      have hc := hU.nrm.inr c (by simp)
      by_cases e : c.2 + 1 = at_
      · refine ⟨p' ++ [(c.1, next - 1)], hU.join h0 h1 h2 hG e, fun k => ?_⟩
        simp only [burinref02_Make.j2]
        rw [g, if_pos rfl, hl, if_pos (by omega), wrap_rg (x := (p'.length : Int) + 1 - 1) (by omega) (by omega), show (p'.length : Int) + 1 - 1 = p'.length by omega, if_pos (by omega), if_pos (by omega), hlast]
        rw [show (toRg c).f1 = c.2 from rfl, show (toRg c).f0 = c.1 from rfl, wrap_rg (x := c.2 + 1) (by omega) (by omega), if_pos e, wrap_rg (x := next - 1) (by omega) (by omega)]
        congr 1
        rw [Int.toNat_natCast, List.map_append, List.map_append, List.set_append_right _ _ (by simp)]
        simp [toRg]
      · refine ⟨(p' ++ [c]) ++ [(at_, next - 1)], hU.more h0 h1 h2 hG (fun x hx => ?_), fun k => ?_⟩
        · rcases List.mem_append.1 hx with hx | hx
          · have := (List.pairwise_append.1 hU.nrm.apart).2.2 x hx c (by simp)
            have := hU.lt c (by simp)
            omega
          · simp only [List.mem_singleton] at hx; subst hx; exact e
        · simp only [burinref02_Make.j2]
          rw [g, if_pos rfl, hl, if_pos (by omega), wrap_rg (x := (p'.length : Int) + 1 - 1) (by omega) (by omega), show (p'.length : Int) + 1 - 1 = p'.length by omega, if_pos (by omega), if_pos (by omega), hlast]
          rw [show (toRg c).f1 = c.2 from rfl, wrap_rg (x := c.2 + 1) (by omega) (by omega), if_neg e, if_pos happ, wrap_rg (x := next - 1) (by omega) (by omega)]
          congr 1
          simp [toRg]
  · rw [Bool.not_eq_true] at g
    rw [g] at hG
    refine ⟨p, hU.skip h1 hG, fun k => ?_⟩
    simp only [burinref02_Make.j2]
    rw [g, if_neg (by simp)]
theorem make_j1 (op : Int) (hop : op = 1 ∨ op = 2 ∨ op = 3) (a b : List S41) (p : List S41) (at_ next : Int) (x y : Bool) {m : List S41} (hx : Ev (fun k => burinref02_Has.f k a at_) x) (hy : Ev (fun k => burinref02_Has.f k b at_) y)
    (h : Ev (fun k => burinref02_Make.j2 k op a b p at_ next (madeBy op x y)) m) : Ev (fun k => burinref02_Make.j1 k op a b p at_ next) m := by
  refine Ev.step (fun k => by simp only [burinref02_Make.j1]; exact rfl) (Ev.bind hx (Ev.bind hy ?_))
  refine Ev.congr (fun k => ?_) h
  rcases hop with rfl | rfl | rfl <;> cases x <;> cases y <;> rfl
theorem make_l0 (op : Int) (hop : op = 1 ∨ op = 2 ∨ op = 3) (a b : List (Int × Int)) (ha : a.length ≤ 900000) (hb : b.length ≤ 900000) (d : Nat) : ∀ (at_ : Int) (p : List (Int × Int)), 0 ≤ at_ → at_ ≤ 1114112 → (1114112 - at_).toNat ≤ d → Upto (fun r => madeBy op (hasL a r) (hasL b r)) at_ p →
    ∃ q, Upto (fun r => madeBy op (hasL a r) (hasL b r)) 1114112 q ∧ Ev (fun k => burinref02_Make.l0 k op (a.map toRg) (b.map toRg) (p.map toRg) at_) (q.map toRg) := by
  induction d with
  | zero =>
    intro at_ p h0 h1 hd hU
    have e : at_ = 1114112 := by omega
    subst e
    refine ⟨p, hU, Ev.step (fun k => ?_) (Ev.now _)⟩
    simp only [burinref02_Make.l0]
    rw [if_neg (by omega)]
  | succ d ih =>
    intro at_ p h0 h1 hd hU
    by_cases c : at_ ≤ 1114111
    · have ea := edge_in a c
      have eb := edge_in b c
      obtain ⟨next, hnext⟩ : ∃ n, n = if edgeL b at_ < edgeL a at_ then edgeL b at_ else edgeL a at_ := ⟨_, rfl⟩
      have hn1 : at_ < next ∧ next ≤ 1114112 ∧ next ≤ edgeL a at_ ∧ next ≤ edgeL b at_ := by
        rw [hnext]; split <;> omega
      obtain ⟨q, hq, hj⟩ := make_j2 op a b (fun r => madeBy op (hasL a r) (hasL b r)) p at_ next hU h0 hn1.1 hn1.2.1 (fun r r0 r1 => by
        show madeBy op (hasL a r) (hasL b r) = madeBy op (hasL a at_) (hasL b at_)
        rw [edge_has h0 r0 (show r < edgeL a at_ by omega), edge_has h0 r0 (show r < edgeL b at_ by omega)])
      obtain ⟨m, hm, hE⟩ := ih next q (by omega) hn1.2.1 (by omega) hq
      refine ⟨m, hm, Ev.step (fun k => by simp only [burinref02_Make.l0]; rw [if_pos c]) (Ev.bind (edge_ev a at_ h0 ha) (Ev.bind (edge_ev b at_ h0 hb) ?_))⟩
      have key : Ev (fun k => burinref02_Make.j1 k op (a.map toRg) (b.map toRg) (p.map toRg) at_ next) (m.map toRg) :=
        make_j1 op hop _ _ _ _ _ _ _ (rhas_ev a at_ ha) (rhas_ev b at_ hb) (Ev.step hj hE)
      refine Ev.congr (fun k => ?_) key
      rw [hnext]
      split <;> rfl
    · have e : at_ = 1114112 := by omega
      subst e
      refine ⟨p, hU, Ev.step (fun k => ?_) (Ev.now _)⟩
      simp only [burinref02_Make.l0]
      rw [if_neg (by omega)]
theorem make_ev (op : Int) (hop : op = 1 ∨ op = 2 ∨ op = 3) (a b : List (Int × Int)) (ha : a.length ≤ 900000) (hb : b.length ≤ 900000) (m : List (Int × Int)) (hm : Nrm m) (hin : ∀ r, inL m r = madeBy op (hasL a r) (hasL b r)) :
    Ev (fun k => burinref02_Make.f k op (a.map toRg) (b.map toRg)) (m.map toRg) := by
  obtain ⟨q, hq, hE⟩ := make_l0 op hop a b ha hb 1114112 0 [] (by omega) (by omega) (by omega) (Upto.start _)
  have e : q = m := nrm_ext hq.nrm hm (fun r => by
    rw [hq.last r, hin r]
    unfold hasL madeBy
    cases decide (0 ≤ r) <;> cases decide (r ≤ 1114111) <;> simp)
  rw [← e]
  exact hE
theorem rnorm_ev (a : List (Int × Int)) (ha : a.length ≤ 900000) : Ev (fun k => burinref02_Norm.f k (a.map toRg)) ((normL a).map toRg) := by
  unfold burinref02_Norm.f
  refine Ev.bind (make_ev 1 (.inl rfl) a [] ha (by simp) (normL a) (normL_nrm a) (fun r => ?_)) (Ev.now _)
  rw [normL_in]
  have : hasL [] r = false := by unfold hasL; rw [inL_nil]; simp
  rw [this]
  unfold madeBy
  simp
theorem one_l1 (L M : List Int) (hL : ∀ x ∈ L, 0 ≤ x ∧ x ≤ 255) (hM : ∀ x ∈ M, 0 ≤ x ∧ x ≤ 255) (hl : L.length = M.length) (hn : L.length ≤ 1000) (d : Nat) : ∀ (j : Nat) (acc : List S41), j + d = L.length → acc = ((L.zip M).take j).map toRg → Ev (fun k => burinref05_one.l1 k (strOfNums L) (strOfNums M) acc j) [(L.zip M).map toRg] := by
  have hz : (L.zip M).length = L.length := by rw [List.length_zip]; omega
  induction d with
  | zero =>
    intro j acc hj ha
    refine Ev.step (f := fun _ => some [(L.zip M).map toRg]) (fun k => ?_) (Ev.now _)
    simp only [burinref05_one.l1]
    rw [strOfNums_size, if_neg (by omega), ha, List.take_of_length_le (by omega)]
  | succ d ih =>
    intro j acc hj ha
    have hlt : j < L.length := by omega
    have hal : acc.length ≤ 1000 := by rw [ha, List.length_map, List.length_take]; omega
    have h1 := hL L[j] (List.getElem_mem hlt)
    have h2 := hM (M[j]'(by omega)) (List.getElem_mem (by omega))
    refine Ev.step (fun k => ?_) (ih (j + 1) (acc ++ [⟨L[j], M[j]'(by omega)⟩]) (by omega) ?_)
    · simp only [burinref05_one.l1]
      rw [strOfNums_size, strOfNums_size, if_pos (by omega), if_pos (by omega), if_pos (by omega), if_pos (by omega), bt_byteI, bt_byteI, byteI_num hL j hlt, byteI_num hM j (by omega), wrap_in (x := L[j]) (by omega) (by omega), wrap_in (x := M[j]'(by omega)) (by omega) (by omega), wrap_to (x := (j : Int) + 1) (y := ((j + 1 : Nat) : Int)) (by omega) (by omega) (by omega)]
    · rw [ha, List.take_succ_eq_append_getElem (by omega), List.map_append]
      simp [toRg]
def tgt (n : Nat) (lo hi m : Int) : List (List (Int × Int)) := if lo ≤ m ∧ m < hi then partL n lo m ++ partL n (m + 1) hi else [seqOf n lo hi]
theorem partL_tgt (n : Nat) (lo hi : Int) : partL n lo hi = tgt n lo hi (partG lo hi (psOf n)).1.2 := by
  rw [partL]
  unfold tgt
  split <;> rfl
theorem one_last {n : Nat} {lo hi : Int} (hw : OneW n lo hi) : Ev (fun k => burinref05_one.l0 k lo hi (strOfNums (encN n lo)) (strOfNums (encN n hi)) n) ((tgt n lo hi (partG lo hi []).1.2).map (List.map toRg)) := by
  have hr := hw.inr
  have hle := hw.le
  have hn := hw.n1
  have hil := encN_in hn (hw.width (Int.le_refl _) hle) ⟨hr.1, by omega⟩
  have hih := encN_in hn (hw.width hle (Int.le_refl _)) ⟨by omega, hr.2⟩
  have hll := encN_len n hn.1 lo
  have hlh := encN_len n hn.1 hi
  rw [show (partG lo hi []).1.2 = hi from rfl]
  unfold tgt
  rw [if_neg (by omega)]
  refine Ev.step (fun k => ?_) (one_l1 _ _ hil hih (by omega) (by omega) (encN n lo).length 0 [] (by omega) rfl)
  simp only [burinref05_one.l0]
  rw [strOfNums_size, hll, if_neg (by omega)]
  rfl
section
variable {n : Nat} {lo hi : Int} (hw : OneW n lo hi) (IH : ∀ lo' hi', (hi' - lo').toNat < (hi - lo).toNat → OneW n lo' hi' → Ev (fun k => burinref05_one.f k lo' hi') ((partL n lo' hi').map (List.map toRg)))
include hw IH
theorem one_two (m : Int) (h1 : lo ≤ m) (h2 : m < hi) : Ev (fun k => (burinref05_one.f k lo m).bind fun t140 => ((burinref05_one.f k (wrap64 (m + 1)) hi).bind fun t143 => (if t140.length + t143.length < 5864062014805 then (some (t140 ++ t143)) else (none)))) ((tgt n lo hi m).map (List.map toRg)) := by
  have hr := hw.inr
  rw [wrap_to (x := m + 1) (y := m + 1) rfl (by omega) (by omega)]
  refine Ev.bind (IH lo m (by omega) (hw.sub (Int.le_refl _) h1 (by omega))) (Ev.bind (IH (m + 1) hi (by omega) (hw.sub (by omega) (by omega) (Int.le_refl _))) ?_)
  have l1 := partL_len n _ lo m (Nat.le_refl _)
  have l2 := partL_len n _ (m + 1) hi (Nat.le_refl _)
  rw [List.length_map, List.length_map, if_pos (by omega)]
  unfold tgt
  rw [if_pos ⟨h1, h2⟩, List.map_append]
  exact Ev.now _
theorem one_step (i : Nat) (P : Int) (ps : List Int) (hP : P = 64 ∨ P = 4096 ∨ P = 262144) (hV : Lev n i lo hi P) (h : Ev (fun k => burinref05_one.l0 k lo hi (strOfNums (encN n lo)) (strOfNums (encN n hi)) ((i + 1 : Nat) : Int)) ((tgt n lo hi (partG lo hi ps).1.2).map (List.map toRg))) :
    Ev (fun k => burinref05_one.l0 k lo hi (strOfNums (encN n lo)) (strOfNums (encN n hi)) i) ((tgt n lo hi (partG lo hi (P :: ps)).1.2).map (List.map toRg)) := by
  have hr := hw.inr
  have hle := hw.le
  have hn := hw.n1
  have hi1 := hV.inr
  have hil := encN_in hn (hw.width (Int.le_refl _) hle) ⟨hr.1, by omega⟩
  have hih := encN_in hn (hw.width hle (Int.le_refl _)) ⟨by omega, hr.2⟩
  have hll := encN_len n hn.1 lo
  have hlh := encN_len n hn.1 hi
  have e1 : wrap64 ((n : Int) - i) = ((n - i : Nat) : Int) := wrap_to (by omega) (by omega) (by omega)
  have e2 : wrap64 ((i : Int) + 1) = ((i + 1 : Nat) : Int) := wrap_to (by omega) (by omega) (by omega)
  have hpre : (((strOfNums (encN n lo)).extract 0 (n - i)).toList = ((strOfNums (encN n hi)).extract 0 (n - i)).toList) ↔ lo - lo % P = hi - hi % P := by
    rw [str_cut, str_cut, ← hV.pre]
    exact ⟨map_inj (fun x hx => hil x (List.mem_of_mem_take hx)) (fun x hx => hih x (List.mem_of_mem_take hx)), fun e => by rw [e]⟩
  have ha := all_ev (encN n lo) hil (by omega) 128 i (by omega)
  have hb := all_ev (encN n hi) hih (by omega) 191 i (by omega)
  rw [hll, hV.alo] at ha
  rw [hlh, hV.ahi] at hb
  unfold partG
  by_cases c1 : lo - lo % P = hi - hi % P
  · rw [if_pos c1]
    refine Ev.step (fun k => ?_) h
    simp only [burinref05_one.l0]
    rw [strOfNums_size, strOfNums_size, hll, hlh, if_pos (by omega), e1, if_pos (by omega), if_pos (by omega), if_pos (by omega), if_pos (by omega), Int.toNat_natCast, if_pos (hpre.2 c1), e2]
  · rw [if_neg c1]
    by_cases c2 : lo % P ≠ 0
    · rw [if_pos c2]
      have hm1 : lo ≤ lo - lo % P + (P - 1) := by rcases hP with rfl | rfl | rfl <;> omega
      have hm2 : lo - lo % P + (P - 1) < hi := by rcases hP with rfl | rfl | rfl <;> omega
      have hwm := hw.width hm1 (by omega)
      have hf := filled_ev (encN n lo) hil (by omega) 191 (by omega) i (by omega) (m := lo - lo % P + (P - 1)) (by omega) (by rw [fill_eq hil i (by omega), hll, hV.flo, hwm])
      rw [decide_eq_false c2] at ha
      refine Ev.step (fun k => by simp only [burinref05_one.l0]; rw [strOfNums_size, strOfNums_size, hll, hlh, if_pos (by omega), e1, if_pos (by omega), if_pos (by omega), if_pos (by omega), if_pos (by omega), Int.toNat_natCast, if_neg (fun g => c1 (hpre.1 g))]) ?_
      refine Ev.bind ha ?_
      simp only [if_neg (show ¬ false = true by decide)]
      exact Ev.bind hf (one_two hw IH _ hm1 hm2)
    · rw [if_neg c2]
      have c2' : lo % P = 0 := by omega
      rw [decide_eq_true c2'] at ha
      by_cases c3 : hi % P ≠ P - 1
      · rw [if_pos c3]
        have hm1 : lo ≤ hi - hi % P - 1 := by rcases hP with rfl | rfl | rfl <;> omega
        have hm2 : hi - hi % P - 1 < hi := by rcases hP with rfl | rfl | rfl <;> omega
        have hwm := hw.width (x := hi - hi % P) (by omega) (by rcases hP with rfl | rfl | rfl <;> omega)
        have hf := filled_ev (encN n hi) hih (by omega) 128 (by omega) i (by omega) (m := hi - hi % P) (by omega) (by rw [fill_eq hih i (by omega), hlh, hV.fhi, hwm])
        rw [decide_eq_false c3] at hb
        refine Ev.step (fun k => by simp only [burinref05_one.l0]; rw [strOfNums_size, strOfNums_size, hll, hlh, if_pos (by omega), e1, if_pos (by omega), if_pos (by omega), if_pos (by omega), if_pos (by omega), Int.toNat_natCast, if_neg (fun g => c1 (hpre.1 g))]) ?_
        refine Ev.bind ha ?_
        simp only [if_true]
        refine Ev.bind hb ?_
        simp only [if_neg (show ¬ false = true by decide)]
        refine Ev.bind hf ?_
        have := one_two hw IH _ hm1 hm2
        rw [show hi - hi % P - 1 + 1 = hi - hi % P by omega, wrap_in (x := hi - hi % P) (by omega) (by omega)] at this
        rw [wrap_in (x := hi - hi % P - 1) (by omega) (by omega)]
        exact this
      · rw [if_neg c3]
        have c3' : hi % P = P - 1 := by omega
        rw [decide_eq_true c3'] at hb
        refine Ev.step (fun k => by simp only [burinref05_one.l0]; rw [strOfNums_size, strOfNums_size, hll, hlh, if_pos (by omega), e1, if_pos (by omega), if_pos (by omega), if_pos (by omega), if_pos (by omega), Int.toNat_natCast, if_neg (fun g => c1 (hpre.1 g))]) ?_
        refine Ev.bind ha ?_
        simp only [if_true]
        refine Ev.bind hb ?_
        simp only [if_true, e2]
        exact h
end
theorem one_ev (n : Nat) : ∀ (d : Nat) (lo hi : Int), (hi - lo).toNat ≤ d → OneW n lo hi → Ev (fun k => burinref05_one.f k lo hi) ((partL n lo hi).map (List.map toRg))
  | d, lo, hi, hd, hw => by
    have IH : ∀ lo' hi', (hi' - lo').toNat < (hi - lo).toNat → OneW n lo' hi' → Ev (fun k => burinref05_one.f k lo' hi') ((partL n lo' hi').map (List.map toRg)) := fun lo' hi' h1 h2 => one_ev n (hi' - lo').toNat lo' hi' (Nat.le_refl _) h2
    have hr := hw.inr
    have hle := hw.le
    have hn := hw.n1
    have hwl := hw.width (Int.le_refl _) hle
    have hwh := hw.width hle (Int.le_refl _)
    have key : Ev (fun k => burinref05_one.l0 k lo hi (strOfNums (encN n lo)) (strOfNums (encN n hi)) 1) ((tgt n lo hi (partG lo hi (psOf n)).1.2).map (List.map toRg)) := by
      have hl := one_last hw
      have hc : n = 1 ∨ n = 2 ∨ n = 3 ∨ n = 4 := by omega
      rcases hc with rfl | rfl | rfl | rfl
      · exact hl
      · exact one_step hw IH 1 64 [] (.inl rfl) (lev21 hw) hl
      · exact one_step hw IH 1 64 [4096] (.inl rfl) (lev31 hw) (one_step hw IH 2 4096 [] (.inr (.inl rfl)) (lev32 hw) hl)
      · exact one_step hw IH 1 64 [4096, 262144] (.inl rfl) (lev41 hw) (one_step hw IH 2 4096 [262144] (.inr (.inl rfl)) (lev42 hw) (one_step hw IH 3 262144 [] (.inr (.inr rfl)) (lev43 hw) hl))
    rw [partL_tgt]
    obtain ⟨K, hK⟩ := key
    refine ⟨K + 2, fun k hk => ?_⟩
    obtain ⟨k, rfl⟩ : ∃ j, k = j + 2 := ⟨k - 2, by omega⟩
    simp only [burinref05_one.f, renc_f, Option.bind_some]
    rw [hwl, hwh, if_neg (by omega), if_neg (by omega)]
    exact hK (k + 1) (by omega)
termination_by d lo hi => (hi - lo).toNat
theorem split_j1 (lo hi : Int) (k : Nat) (hk : k < 5) (acc : List (List S41)) (hacc : acc.length ≤ 10000000) {r : List (List S41)}
    (h : Ev (fun q => burinref05_Split.l0 q lo hi (acc ++ (cutW lo hi (wds[k]'hk)).map (List.map toRg)) [0, 127, 128, 2047, 2048, 55295, 57344, 65535, 65536, 1114111] ((2 * k + 2 : Nat) : Int)) r) :
    Ev (fun q => burinref05_Split.j1 q lo hi acc [0, 127, 128, 2047, 2048, 55295, 57344, 65535, 65536, 1114111] ((2 * k : Nat) : Int) (max lo (wds[k]'hk).2.1) (wds[k]'hk).2.2) r := by
  have ho := oneW_cut lo hi k hk
  have e2 : wrap64 (((2 * k : Nat) : Int) + 2) = ((2 * k + 2 : Nat) : Int) := wrap_to (by omega) (by omega) (by omega)
  unfold cutW at h
  generalize (wds[k]'hk).1 = n at *
  generalize (wds[k]'hk).2.1 = a at *
  generalize (wds[k]'hk).2.2 = b at *
  refine Ev.step (f := fun q => if max lo a ≤ min hi b then ((burinref05_one.f q (max lo a) (min hi b)).bind fun t174 => (if acc.length + t174.length < 5864062014805 then (burinref05_Split.l0 q lo hi (acc ++ t174) [0, 127, 128, 2047, 2048, 55295, 57344, 65535, 65536, 1114111] ((2 * k + 2 : Nat) : Int)) else (none))) else (burinref05_Split.l0 q lo hi acc [0, 127, 128, 2047, 2048, 55295, 57344, 65535, 65536, 1114111] ((2 * k + 2 : Nat) : Int))) (fun q => ?_) ?_
  · simp only [burinref05_Split.j1, e2]
    by_cases c : hi < b
    · rw [if_pos c, show min hi b = hi by omega]
    · rw [if_neg c, show min hi b = b by omega]
  · by_cases c : max lo a ≤ min hi b
    · simp only [if_pos c] at h ⊢
      have hl := partL_len n _ (max lo a) (min hi b) (Nat.le_refl _)
      have hr := (ho c).inr
      refine Ev.bind (one_ev n _ _ _ (Nat.le_refl _) (ho c)) ?_
      rw [List.length_map]
      simp only [if_pos (show acc.length + (partL n (max lo a) (min hi b)).length < 5864062014805 by omega)]
      exact h
    · simp only [if_neg c, List.map_nil, List.append_nil] at h ⊢
      exact h
theorem split_l0 (lo hi : Int) (k : Nat) (hk : k < 5) (acc : List (List S41)) (hacc : acc.length ≤ 10000000) {r : List (List S41)}
    (h : Ev (fun q => burinref05_Split.l0 q lo hi (acc ++ (cutW lo hi (wds[k]'hk)).map (List.map toRg)) [0, 127, 128, 2047, 2048, 55295, 57344, 65535, 65536, 1114111] ((2 * k + 2 : Nat) : Int)) r) :
    Ev (fun q => burinref05_Split.l0 q lo hi acc [0, 127, 128, 2047, 2048, 55295, 57344, 65535, 65536, 1114111] ((2 * k : Nat) : Int)) r := by
  refine Ev.step (fun q => ?_) (split_j1 lo hi k hk acc hacc h)
  simp only [burinref05_Split.l0]
  have e1 : wrap64 (((2 * k : Nat) : Int) + 1) = ((2 * k + 1 : Nat) : Int) := wrap_to (by omega) (by omega) (by omega)
  have r1 : rd ([0, 127, 128, 2047, 2048, 55295, 57344, 65535, 65536, 1114111] : List Int) ((2 * k : Nat) : Int) = (wds[k]'hk).2.1 := by
    match k, hk with
    | 0, _ => rfl
    | 1, _ => rfl
    | 2, _ => rfl
    | 3, _ => rfl
    | 4, _ => rfl
  have r2 : rd ([0, 127, 128, 2047, 2048, 55295, 57344, 65535, 65536, 1114111] : List Int) ((2 * k + 1 : Nat) : Int) = (wds[k]'hk).2.2 := by
    match k, hk with
    | 0, _ => rfl
    | 1, _ => rfl
    | 2, _ => rfl
    | 3, _ => rfl
    | 4, _ => rfl
  rw [e1, r1, r2, if_pos (by simp; omega), if_pos (by omega), if_pos (by simp; omega), if_pos (by omega)]
  by_cases c : lo > (wds[k]'hk).2.1
  · rw [if_pos c, show max lo (wds[k]'hk).2.1 = lo by omega]
  · rw [if_neg c, show max lo (wds[k]'hk).2.1 = (wds[k]'hk).2.1 by omega]
theorem rsplit_ev (lo hi : Int) : Ev (fun q => burinref05_Split.f q lo hi) ((splitL lo hi).map (List.map toRg)) := by
  have hlen : ∀ k (hk : k < 5), ((cutW lo hi (wds[k]'hk)).map (List.map toRg)).length ≤ 1114112 := by
    intro k hk
    rw [List.length_map]
    have ho := oneW_cut lo hi k hk
    unfold cutW
    split
    · rename_i c
      have hr := (ho c).inr
      have := partL_len (wds[k]'hk).1 _ (max lo (wds[k]'hk).2.1) (min hi (wds[k]'hk).2.2) (Nat.le_refl _)
      omega
    · simp
  have l0 := hlen 0 (by decide)
  have l1 := hlen 1 (by decide)
  have l2 := hlen 2 (by decide)
  have l3 := hlen 3 (by decide)
  have l4 := hlen 4 (by decide)
  unfold burinref05_Split.f
  refine split_l0 lo hi 0 (by decide) _ (by simp) (split_l0 lo hi 1 (by decide) _ ?_ (split_l0 lo hi 2 (by decide) _ ?_ (split_l0 lo hi 3 (by decide) _ ?_ (split_l0 lo hi 4 (by decide) _ ?_ ?_))))
  · simp only [List.length_append, List.length_nil]; omega
  · simp only [List.length_append, List.length_nil]; omega
  · simp only [List.length_append, List.length_nil]; omega
  · simp only [List.length_append, List.length_nil]; omega
  · have e : splitL lo hi = cutW lo hi wds[0] ++ (cutW lo hi wds[1] ++ (cutW lo hi wds[2] ++ (cutW lo hi wds[3] ++ cutW lo hi wds[4]))) := by
      unfold splitL
      show List.flatMap (cutW lo hi) [wds[0], wds[1], wds[2], wds[3], wds[4]] = _
      simp only [List.flatMap_cons, List.flatMap_nil, List.append_nil]
    rw [e]
    refine Ev.step (f := fun _ => some (([] ++ (cutW lo hi wds[0]).map (List.map toRg) ++ (cutW lo hi wds[1]).map (List.map toRg) ++ (cutW lo hi wds[2]).map (List.map toRg) ++ (cutW lo hi wds[3]).map (List.map toRg) ++ (cutW lo hi wds[4]).map (List.map toRg)))) (fun q => ?_) ?_
    · simp only [burinref05_Split.l0]
      rw [if_neg (by decide +kernel)]
      rfl
    · simp only [List.map_append, List.nil_append, List.append_assoc]
      exact Ev.now _
theorem rof_l0 (m : List (Int × Int)) (hm : m.length ≤ 60) (d : Nat) : ∀ (i : Nat) (acc : List (List (Int × Int))), i + d = m.length → acc.length ≤ i * 5570560 →
    Ev (fun k => burinref05_Of.l0 k (acc.map (List.map toRg)) (m.map toRg) i) ((acc ++ (m.drop i).flatMap fun x => splitL x.1 x.2).map (List.map toRg)) := by
  induction d with
  | zero =>
    intro i acc hi ha
    refine Ev.step (f := fun _ => some (acc.map (List.map toRg))) (fun k => ?_) ?_
    · simp only [burinref05_Of.l0]
      rw [List.length_map, if_neg (by omega)]
    · rw [List.drop_of_length_le (by omega)]
      simp only [List.flatMap_nil, List.append_nil]
      exact Ev.now _
  | succ d ih =>
    intro i acc hi ha
    have hlt : i < m.length := by omega
    have hsl := splitL_len m[i].1 m[i].2
    rw [List.drop_eq_getElem_cons hlt, List.flatMap_cons, ← List.append_assoc]
    refine Ev.step (fun k => by simp only [burinref05_Of.l0]; rw [List.length_map, if_pos (by omega), if_pos (by omega), rd_rg m i hlt, wrap_to (x := (i : Int) + 1) (y := ((i + 1 : Nat) : Int)) (by omega) (by omega) (by omega)]) ?_
    refine Ev.bind (rsplit_ev _ _) ?_
    rw [show (toRg m[i]).f0 = m[i].1 from rfl, show (toRg m[i]).f1 = m[i].2 from rfl]
    simp only [List.length_map, if_pos (show acc.length + (splitL m[i].1 m[i].2).length < 5864062014805 by omega), ← List.map_append]
    exact ih (i + 1) _ (by omega) (by rw [List.length_append]; omega)
theorem rof_ev (l : List S41) (hl : l.length ≤ 60) : Ev (fun k => burinref05_Of.f k l) ((ofL (l.map ofRg)).map (List.map toRg)) := by
  unfold burinref05_Of.f
  have hne := rnorm_ev (l.map ofRg) (by rw [List.length_map]; omega)
  rw [show (l.map ofRg).map toRg = l by rw [List.map_map]; exact List.map_id'' (fun x => toRg_ofRg x) l] at hne
  refine Ev.bind hne ?_
  have hn : (normL (l.map ofRg)).length ≤ 60 := by have := normL_len (l.map ofRg); rw [List.length_map] at this; omega
  exact rof_l0 (normL (l.map ofRg)) hn (normL (l.map ofRg)).length 0 [] (by omega) (by simp)
theorem split_f (a b : Int) : bands_Split.f a b = some ((splitL a b).map (List.map toRg)) := rfl
theorem back_rg (q : List (Int × Int)) : (q.map toRg).map (fun x => (x.f0, x.f1)) = q := by
  rw [List.map_map]
  exact List.map_id'' (fun x => rfl) q
theorem back_seqs (X : List (List (Int × Int))) : (X.map (List.map toRg)).map (List.map fun x => (x.f0, x.f1)) = X := by
  rw [List.map_map]
  exact List.map_id'' (fun q => back_rg q) X
theorem long_f (X : List (List (Int × Int))) (s : ByteArray) (h : X.length ≤ 1000000000) (hq : ∀ q ∈ X, q.length ≤ 1000000) : bands_Long.f (X.map (List.map toRg)) s = some (longF s X) := by
  unfold bands_Long.f
  rw [back_seqs, if_pos]
  refine ⟨by rw [List.length_map]; exact h, List.all_eq_true.2 fun q hq' => ?_⟩
  obtain ⟨p, hp, rfl⟩ := List.mem_map.1 hq'
  rw [List.length_map]
  exact decide_eq_true (hq p hp)
theorem of_l0 (m : List (Int × Int)) (hm : m.length ≤ 60) (d : Nat) : ∀ (i : Nat) (acc : List (List (Int × Int))), i + d = m.length → acc.length ≤ i * 5570560 →
    Ev (fun k => bands_Of.l0 k (acc.map (List.map toRg)) (m.map toRg) (m.length : Int) i) ((acc ++ (m.drop i).flatMap fun x => splitL x.1 x.2).map (List.map toRg)) := by
  induction d with
  | zero =>
    intro i acc hi ha
    refine Ev.step (fun k => ?_) (Ev.now _)
    simp only [bands_Of.l0]
    rw [if_neg (by omega), List.drop_of_length_le (by omega)]
    simp
  | succ d ih =>
    intro i acc hi ha
    have hlt : i < m.length := by omega
    have hsl := splitL_len m[i].1 m[i].2
    rw [List.drop_eq_getElem_cons hlt, List.flatMap_cons, ← List.append_assoc]
    have hstep : ∀ k, bands_Of.l0 (k + 1) (acc.map (List.map toRg)) (m.map toRg) (m.length : Int) i = bands_Of.l0 k ((acc ++ splitL m[i].1 m[i].2).map (List.map toRg)) (m.map toRg) (m.length : Int) ((i + 1 : Nat) : Int) := by
      intro k
      simp only [bands_Of.l0]
      rw [if_pos (by omega), if_pos (by omega), if_pos (by simp; omega), rd_rg m i hlt, split_f, Option.bind_some, List.length_map, List.length_map]
      rw [show (toRg m[i]).f0 = m[i].1 from rfl, show (toRg m[i]).f1 = m[i].2 from rfl, if_pos (by omega), ← List.map_append, wrap_to (x := (i : Int) + 1) (y := ((i + 1 : Nat) : Int)) (by omega) (by omega) (by omega)]
    exact Ev.step hstep (ih (i + 1) _ (by omega) (by rw [List.length_append]; omega))
theorem of_ev (l : List S41) (hl : l.length ≤ 60) : Ev (fun k => bands_Of.f k l) ((ofL (l.map ofRg)).map (List.map toRg)) := by
  unfold bands_Of.f
  refine Ev.bind (norm_ev l (by omega)) ?_
  have hn : (normL (l.map ofRg)).length ≤ 60 := by have := normL_len (l.map ofRg); rw [List.length_map] at this; omega
  have := of_l0 (normL (l.map ofRg)) hn (normL (l.map ofRg)).length 0 [] (by omega) (by simp)
  rw [List.length_map]
  exact this
theorem ofL_len (l : List S41) (hl : l.length ≤ 60) : (ofL (l.map ofRg)).length ≤ 1000000000 := by
  have hn := normL_len (l.map ofRg)
  rw [List.length_map] at hn
  have := of_len (normL (l.map ofRg))
  unfold ofL
  omega
theorem ofL_q (l : List (Int × Int)) : ∀ q ∈ ofL l, q.length ≤ 1000000 := fun q hq => by have := ofL_seq q hq; omega
theorem long_of (l : List S41) (hl : l.length ≤ 60) (s : ByteArray) : bands_Long.f ((ofL (l.map ofRg)).map (List.map toRg)) s = some (longF s (ofL (l.map ofRg))) := long_f _ s (ofL_len l hl) (ofL_q _)
theorem works_ev : Ev burinlaw05_works.f true := by
  unfold burinlaw05_works.f
  have e1 : bands_Split.f 128 2047 = some [[(⟨194, 223⟩ : S41), ⟨128, 191⟩]] := by rw [split_f, split_two]; rfl
  have e2 : bands_Split.f 0 1114111 = some ((splitL 0 1114111).map (List.map toRg)) := split_f _ _
  have e3 : ((splitL 0 1114111).map (List.map toRg)).length = 9 := by rw [List.length_map, split_all]
  refine Ev.bind (by rw [e1]; exact Ev.now _) ?_
  simp only [List.length_singleton, if_pos (show (((1 : Nat) : Int) = 1) by decide), if_pos (show (0 : Int) < ((1 : Nat) : Int) by decide)]
  refine Ev.bind (a := true) (Ev.of (fun k => burinbook_SameRanges.mono _ _ _) (k := 4) (by decide +kernel)) ?_
  simp only [if_true]
  refine Ev.bind (by rw [e2]; exact Ev.now _) ?_
  simp only [e3, if_pos (show (((9 : Nat) : Int) = 9) by decide)]
  refine Ev.congr (f := fun _ => some true) (fun k => ?_) (Ev.now _)
  have := long_f [[(194, 223), (128, 191)]] ⟨#[195, 169, 120]⟩ (by decide) (by decide)
  rw [show ([[(194, 223), (128, 191)]] : List (List (Int × Int))).map (List.map toRg) = [[(⟨194, 223⟩ : S41), ⟨128, 191⟩]] from rfl] at this
  rw [this]
  decide +kernel
theorem same_l0 (s : List S41) (hn : s.length ≤ 2000000) (d : Nat) : ∀ i : Nat, i ≤ s.length → s.length - i = d → Ev (fun k => burinbook_SameRanges.l0 k s s true i) true := by
  induction d with
  | zero =>
    intro i hi hd
    refine Ev.step (fun k => ?_) (Ev.now _)
    simp only [burinbook_SameRanges.l0]
    rw [if_pos trivial, if_neg (by omega)]
  | succ d ih =>
    intro i hi hd
    refine Ev.step (fun k => ?_) (ih (i + 1) (by omega) (by omega))
    simp only [burinbook_SameRanges.l0]
    rw [if_pos trivial, if_pos (by omega), if_pos (by omega), if_pos (by omega), wrap_rg (x := (i : Int) + 1) (by omega) (by omega), show (i : Int) + 1 = ((i + 1 : Nat) : Int) by omega]
    simp
theorem same_ev (s : List S41) (hn : s.length ≤ 2000000) : Ev (fun k => burinbook_SameRanges.f k s s) true := by
  have := same_l0 s hn _ 0 (Nat.zero_le _) rfl
  unfold burinbook_SameRanges.f
  simpa using this
/-! The contracts, told by pairs. -/
theorem toC {A : Option Addr} {a : List (Int × Int)} {w : World} (h : Kd.C kRg w A a.length a) : Kd.C k41 w A (a.map toRg).length (a.map toRg) := by
  rw [rg_kd, List.length_map]
  exact C_iso.2 (by rw [map_forth]; exact h)
theorem fromR {e base : Nat} {ok : Nat → Prop} {v : Value} {a : List (Int × Int)} {w : World} (h : Kd.R k41 e w base ok v (a.map toRg)) : Kd.R kRg e w base ok v a := by
  have := R_iso.1 (rg_kd ▸ h)
  rwa [map_forth] at this
theorem same_at {A A' : Option Addr} {c c' : Nat} {a : List (Int × Int)} {w : World} (hn : a.length ≤ 2000000) (h : Kd.C kRg w A a.length a) (hc : a.length ≤ c) (h' : Kd.C kRg w A' a.length a) (hc' : a.length ≤ c') :
    Calls Try.prog 25 #[.slice A a.length c, .slice A' a.length c'] w (fun e w' => e = .returned (.bool true) ∧ Below w.heap.size w w') := by
  obtain ⟨k, hk⟩ := Ev.rounds (same_ev (a.map toRg) (by simpa using hn))
  have := burinbook_SameRanges.calls k A c (a.map toRg) A' c' (a.map toRg) true w (toC h) (by simpa using hc) (toC h') (by simpa using hc') hk
  rw [List.length_map] at this
  exact this.mono fun e w' ⟨he, hb⟩ => ⟨he, hb.below⟩
theorem rd_seq (X : List (List S41)) (i : Nat) (h : i < X.length) : rd_L2 X (i : Int) = X[i] := by
  unfold rd_L2
  rw [Int.toNat_natCast, List.getD_eq_getElem?_getD, List.getElem?_eq_getElem h]
  rfl
theorem seqs_l0 (X : List (List S41)) (hX : X.length ≤ 1000000000) (hq : ∀ q ∈ X, q.length ≤ 100000) (d : Nat) : ∀ i : Nat, i + d = X.length → Ev (fun k => burinbook_SameSeqs.l0 k X X true i) true := by
  induction d with
  | zero =>
    intro i hi
    refine Ev.step (fun k => ?_) (Ev.now _)
    simp only [burinbook_SameSeqs.l0]
    rw [if_pos trivial, if_neg (by omega)]
  | succ d ih =>
    intro i hi
    have hlt : i < X.length := by omega
    have hqi := hq X[i] (List.getElem_mem hlt)
    refine Ev.step (f := fun k => (burinbook_SameRanges.f k X[i] X[i]).bind fun t => burinbook_SameSeqs.l0 k X X t ((i + 1 : Nat) : Int)) (fun k => ?_) (Ev.bind (same_ev X[i] (by omega)) (ih (i + 1) (by omega)))
    simp only [burinbook_SameSeqs.l0]
    rw [if_pos trivial, if_pos (by omega), if_pos (by omega), if_pos (by omega), rd_seq X i hlt, wrap_to (x := (i : Int) + 1) (y := ((i + 1 : Nat) : Int)) (by omega) (by omega) (by omega)]
theorem seqs_ev (X : List (List S41)) (hX : X.length ≤ 1000000000) (hq : ∀ q ∈ X, q.length ≤ 100000) : Ev (fun k => burinbook_SameSeqs.f k X X) true := by
  have := seqs_l0 X hX hq X.length 0 (by omega)
  unfold burinbook_SameSeqs.f
  simpa using this
theorem works_at {w : World} : Calls Try.prog 9 #[] w (fun e w' => e = .returned (.bool true) ∧ Below w.heap.size w w') := by
  obtain ⟨k, hk⟩ := Ev.rounds works_ev
  exact burinlaw05_works.calls k true w hk
abbrev kX := Kd.slice 41 k41
/-- A list of lists that a call made. -/
def Made (w : World) (X : List (List S41)) (e : Ending) (w' : World) : Prop := ∃ A c, e = .returned (.slice A X.length c) ∧ X.length ≤ c ∧ Kd.C kX w' A X.length X ∧ Below w.heap.size w w'
theorem split_at (lo hi : Int) (w : World) : Calls Try.prog 17 #[.int .i64 lo, .int .i64 hi] w (Made w ((splitL lo hi).map (List.map toRg))) :=
  (bands_Split.calls lo hi _ w (split_f lo hi)).mono fun e w' ⟨v, he, hS, hb⟩ => by
    obtain ⟨A, c, rfl, hc, hC⟩ := Kd.S_reads hS
    exact ⟨A, c, he, hc, hC, hb⟩
theorem rsplit_at (lo hi : Int) (w : World) : Calls Try.prog 18 #[.int .i64 lo, .int .i64 hi] w (Made w ((splitL lo hi).map (List.map toRg))) := by
  obtain ⟨k, hk⟩ := Ev.rounds (rsplit_ev lo hi)
  exact (burinref05_Split.calls k lo hi _ w hk).mono fun e w' ⟨v, he, hS, hb⟩ => by
    obtain ⟨A, c, rfl, hc, hC⟩ := Kd.N_reads hS
    exact ⟨A, c, he, hc, hC, hb⟩
theorem of_at {A : Option Addr} {c : Nat} {a : List (Int × Int)} {w : World} (hn : a.length ≤ 20) (h : Kd.C kRg w A a.length a) (hc : a.length ≤ c) : Calls Try.prog 19 #[.slice A a.length c] w (Made w ((ofL a).map (List.map toRg))) := by
  obtain ⟨k, hk⟩ := Ev.rounds (of_ev (a.map toRg) (by rw [List.length_map]; omega))
  rw [map_forth] at hk
  have := bands_Of.calls k A c (a.map toRg) _ w (toC h) (by simpa using hc) hk
  rw [List.length_map] at this
  exact this.mono fun e w' ⟨v, he, hS, hb⟩ => by
    obtain ⟨A, c, rfl, hc, hC⟩ := Kd.N_reads hS
    exact ⟨A, c, he, hc, hC, hb⟩
theorem rof_at {A : Option Addr} {c : Nat} {a : List (Int × Int)} {w : World} (hn : a.length ≤ 20) (h : Kd.C kRg w A a.length a) (hc : a.length ≤ c) : Calls Try.prog 20 #[.slice A a.length c] w (Made w ((ofL a).map (List.map toRg))) := by
  obtain ⟨k, hk⟩ := Ev.rounds (rof_ev (a.map toRg) (by rw [List.length_map]; omega))
  rw [map_forth] at hk
  have := burinref05_Of.calls k A c (a.map toRg) _ w (toC h) (by simpa using hc) hk
  rw [List.length_map] at this
  exact this.mono fun e w' ⟨v, he, hS, hb⟩ => by
    obtain ⟨A, c, rfl, hc, hC⟩ := Kd.N_reads hS
    exact ⟨A, c, he, hc, hC, hb⟩
theorem sames_at {A A' : Option Addr} {c c' : Nat} {Y : List (List S41)} {w : World} (hX : Y.length ≤ 1000000000) (hq : ∀ q ∈ Y, q.length ≤ 100000) (h : Kd.C kX w A Y.length Y) (hc : Y.length ≤ c) (h' : Kd.C kX w A' Y.length Y) (hc' : Y.length ≤ c') :
    Calls Try.prog 11 #[.slice A Y.length c, .slice A' Y.length c'] w (fun e w' => e = .returned (.bool true) ∧ Below w.heap.size w w') := by
  obtain ⟨k, hk⟩ := Ev.rounds (seqs_ev Y hX hq)
  exact (burinbook_SameSeqs.calls k A c Y A' c' Y true w h hc h' hc' hk).mono fun e w' ⟨he, hd⟩ => ⟨he, hd.below⟩
theorem splitL_q (lo hi : Int) : ∀ q ∈ (splitL lo hi).map (List.map toRg), q.length ≤ 100000 := by
  intro q hq
  obtain ⟨p, hp, rfl⟩ := List.mem_map.1 hq
  obtain ⟨P, e, h⟩ := splitL_pieces lo hi
  rw [e] at hp
  obtain ⟨p', hp', rfl⟩ := List.mem_map.1 hp
  have := (h.all p' hp').1.w.n1
  rw [List.length_map, show (seq3 p').length = p'.1 from seqOf_len this.1 _ _]
  omega
set_option maxHeartbeats 2000000 in
theorem BandsSplits_walk (lo hi : Int) (A0 : Option Addr) (c0 : Nat) (a : List (Int × Int)) (w : World) (hCa : Kd.C kRg w A0 a.length a) (hca : a.length ≤ c0) :
    Calls Try.prog 4 #[.int .i64 lo, .int .i64 hi, .slice A0 a.length c0] w (fun e w' => e = .returned (.bool true) ∧ Below w.heap.size w w') := by
  have HW := Aside0.mk (fun w => works_at (w := w))
  by_cases ha : a.length ≤ 20
  · have HL := Aside0.mk (lend_any A0 c0 a w hCa (by omega))
    have HSP := Aside0.mk (split_at lo hi)
    have HRS := Aside0.mk (rsplit_at lo hi)
    have HOF := Aside0.mk (fun (A : Option Addr) (c : Nat) (w : World) (h : Kd.C kRg w A a.length a) (hc : a.length ≤ c) => of_at ha h hc)
    have HRO := Aside0.mk (fun (A : Option Addr) (c : Nat) (w : World) (h : Kd.C kRg w A a.length a) (hc : a.length ≤ c) => rof_at ha h hc)
    have hsl := splitL_len lo hi
    have hsq := splitL_q lo hi
    have hol : ((ofL a).map (List.map toRg)).length ≤ 1000000000 := by
      rw [List.length_map]
      have h1 := normL_len a
      have h2 := of_len (normL a)
      unfold ofL
      omega
    have hoq : ∀ q ∈ (ofL a).map (List.map toRg), q.length ≤ 100000 := by
      intro q hq
      obtain ⟨p, hp, rfl⟩ := List.mem_map.1 hq
      have := ofL_seq p hp
      rw [List.length_map]
      omega
    have hsl' : ((splitL lo hi).map (List.map toRg)).length ≤ 1000000000 := by rw [List.length_map]; omega
    have HS1 := Aside0.mk (fun (w : World) (A A' : Option Addr) (c c' : Nat) (h : Kd.C kX w A ((splitL lo hi).map (List.map toRg)).length ((splitL lo hi).map (List.map toRg))) (hc : ((splitL lo hi).map (List.map toRg)).length ≤ c) (h' : Kd.C kX w A' ((splitL lo hi).map (List.map toRg)).length ((splitL lo hi).map (List.map toRg))) (hc' : ((splitL lo hi).map (List.map toRg)).length ≤ c') => sames_at hsl' hsq h hc h' hc')
    have HS2 := Aside0.mk (fun (w : World) (A A' : Option Addr) (c c' : Nat) (h : Kd.C kX w A ((ofL a).map (List.map toRg)).length ((ofL a).map (List.map toRg))) (hc : ((ofL a).map (List.map toRg)).length ≤ c) (h' : Kd.C kX w A' ((ofL a).map (List.map toRg)).length ((ofL a).map (List.map toRg))) (hc' : ((ofL a).map (List.map toRg)).length ≤ c') => sames_at hol hoq h hc h' hc')
    have HK := Aside0.mk (fun (w : World) (base : Nat) (v : Value) (A : Option Addr) (c : Nat) (h : Lent w base v a) (h0 : Kd.C kRg w A a.length a) (hc0 : a.length ≤ c) => kept_any a w base v A c (fun A' c' hA hc => same_at (by omega) hA hc h0 hc0) h (by omega))
    have HC := Aside0.mk hCa
    clear hCa hsl hsq hol hoq hsl'
    generalize (splitL lo hi).map (List.map toRg) = X at HSP HRS HS1
    generalize (ofL a).map (List.map toRg) = Y at HOF HRO HS2
    obtain ⟨n, hn⟩ : ∃ n, a.length = n := ⟨_, rfl⟩
    have HLN := Aside0.mk hn
    rw [hn] at HL HOF HRO HK HC ha hca ⊢
    clear hn
    go_enter Try.func4, Try.ntmps4
    go_wp2_with fail
    refine HL.out.mono ?_
    rintro e w1 ⟨v1, rfl, hl1, hb1⟩
    obtain ⟨A1, c1, hv1, hc1, hC1⟩ := hl1.reads
    rw [HLN.out] at hv1 hc1 hC1
    subst hv1
    have HL1 := Aside0.mk hl1
    have HC1 := Aside0.mk hC1
    have HA1 := Aside0.mk (Kd.C_below HC.out hb1)
    have HB1 := Aside0.mk hb1
    clear hl1 hC1 hb1 HL HC
    go_wp2_with fail
    refine (HSP.out w1).mono ?_
    rintro e w2 ⟨A2, c2, rfl, hc2, hC2, hb2⟩
    have HC2 := Aside0.mk hC2
    have HB2 := Aside0.mk hb2
    clear hC2 hb2 HSP
    go_wp2_with fail
    refine (HRS.out w2).mono ?_
    rintro e w3 ⟨A3, c3, rfl, hc3, hC3, hb3⟩
    have HC2' := Aside0.mk (Kd.C_below HC2.out hb3)
    have HC3 := Aside0.mk hC3
    have HB3 := Aside0.mk (HB2.out.trans (hb3.mono HB2.out.size))
    clear hC3 hb3 HRS HC2 HB2
    go_wp2_with fail
    refine (HS1.out w3 A2 A3 c2 c3 HC2'.out hc2 HC3.out hc3).mono ?_
    rintro e w4 ⟨rfl, hb4⟩
    have HB4 := Aside0.mk (HB3.out.trans (hb4.mono HB3.out.size))
    clear hb4 HB3 HC2' HC3 HS1 hc2 hc3
    go_wp2_with fail
    refine (HOF.out A1 c1 w4 (Kd.C_below HC1.out HB4.out) (by omega)).mono ?_
    rintro e w5 ⟨A5, c5, rfl, hc5, hC5, hb5⟩
    have HC5 := Aside0.mk hC5
    have HB5 := Aside0.mk (HB4.out.trans (hb5.mono HB4.out.size))
    clear hC5 hb5 HB4
    go_wp2_with fail
    refine (HRO.out A0 c0 w5 (Kd.C_below HA1.out HB5.out) (by omega)).mono ?_
    rintro e w6 ⟨A6, c6, rfl, hc6, hC6, hb6⟩
    have HC5' := Aside0.mk (Kd.C_below HC5.out hb6)
    have HC6 := Aside0.mk hC6
    have HB6 := Aside0.mk (HB5.out.trans (hb6.mono HB5.out.size))
    clear hC6 hb6 HB5 HC5
    go_wp2_with fail
    refine (HS2.out w6 A5 A6 c5 c6 HC5'.out hc5 HC6.out hc6).mono ?_
    rintro e w7 ⟨rfl, hb7⟩
    have HB7 := Aside0.mk (HB6.out.trans (hb7.mono HB6.out.size))
    clear hb7 HB6 HC5' HC6 hc5 hc6
    go_wp2_with fail
    refine (HK.out w7 _ _ A0 c0 (HL1.out.below HB7.out) (Kd.C_below HA1.out HB7.out) hca).mono ?_
    rintro e w8 ⟨rfl, hb8⟩
    have HB8 := Aside0.mk (HB7.out.trans (hb8.mono HB7.out.size))
    clear hb8 HB7
    go_wp2_with fail
    refine (HW.out w8).mono ?_
    rintro e w9 ⟨rfl, hb9⟩
    have HB9 := Aside0.mk (HB8.out.trans (hb9.mono HB8.out.size))
    clear hb9 HB8
    go_wp2
    go_ret
    exact ⟨rfl, HB1.out.trans (HB9.out.mono HB1.out.size)⟩
  · clear hCa
    generalize a.length = n at *
    go_enter Try.func4, Try.ntmps4
    go_wp2_with fail
    refine (HW.out w).mono ?_
    rintro e w1 ⟨rfl, hb⟩
    go_wp2
    go_ret
    exact ⟨rfl, hb⟩
end Go.Proofs.Ytoihlfiacnljhaa.Pure
