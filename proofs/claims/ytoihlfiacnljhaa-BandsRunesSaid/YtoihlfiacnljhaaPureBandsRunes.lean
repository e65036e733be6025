/- BandsRunes: a rune's bytes are taken just if it is in the set, and what is taken of any text are the bytes of a rune of the set; no condition. -/
import Derived.Test.YtoihlfiacnljhaaHBandsRunesx5
import Derived.Test.YtoihlfiacnljhaaXBandsOf
namespace Go.Proofs.Ytoihlfiacnljhaa.Pure
open Go.RowKit Go.Proofs.Ytoihlfiacnljhaa.HBandsRunes Go.Proofs.YtoihlfiacnljhaaW.PrintWords Go.Proofs.YtoihlfiacnljhaaW.PrintLast
open Go.Proofs.YtoihlfiacnljhaaX
set_option linter.unusedVariables false
set_option linter.unusedSimpArgs false
theorem wrap_to {x y : Int} (e : x = y) (h0 : -9223372036854775808 ≤ y) (h1 : y ≤ 9223372036854775807) : wrap64 x = y := by
  subst e
  exact wrap_in h0 h1
theorem width_f (k : Nat) (r : Int) : utf_Width.f (k + 1) r = some (widthF r : Int) := by
  simp only [utf_Width.f, utf_Width.j0, widthF]
  by_cases h1 : r < 0
  · simp [h1]
  · by_cases h2 : r > 1114111
    · simp [h1, h2]
    · by_cases h3 : r ≥ 55296
      · by_cases h4 : r ≤ 57343
        · simp [h1, h2, h3, h4]
        · have h5 : ¬ r ≤ 127 := by omega
          have h6 : ¬ r ≤ 2047 := by omega
          by_cases h7 : r ≤ 65535 <;> simp [h1, h2, h3, h4, h5, h6, h7]
      · have h4 : ¬ (r < 0 ∨ r > 1114111 ∨ (55296 ≤ r ∧ r ≤ 57343)) := by omega
        rw [if_neg h1, if_neg h2, if_neg h3, if_neg h4, if_neg (by decide)]
        by_cases h5 : r ≤ 127
        · simp [h5]
        · by_cases h6 : r ≤ 2047
          · simp [h5, h6]
          · by_cases h7 : r ≤ 65535 <;> simp [h5, h6, h7]
theorem long_fv (k : Nat) (b : Int) : utf_long.f (k + 2) b = some (longV b : Int) := by
  simp only [utf_long.f, utf_long.j0, utf_long.j1, longV]
  by_cases h1 : b ≤ 127
  · simp [h1]
  · by_cases h2 : b ≥ 194
    · by_cases h3 : b < 224
      · simp [h1, h2, h3]
      · have g : ¬ (194 ≤ b ∧ b < 224) := by omega
        have h4 : b ≥ 224 := by omega
        rw [if_neg h1, if_pos h2, if_neg h1, if_neg g, if_neg (by simpa using h3), if_pos h4]
        by_cases h5 : b < 240
        · simp [h4, h5]
        · have g2 : ¬ (224 ≤ b ∧ b < 240) := by omega
          have h6 : b ≥ 240 := by omega
          rw [if_neg (by simpa using h5), if_pos h6, if_neg g2]
          by_cases h7 : b < 245
          · simp [h6, h7]
          · simp [h7]
    · have g1 : ¬ (194 ≤ b ∧ b < 224) := by omega
      have g2 : ¬ (224 ≤ b ∧ b < 240) := by omega
      have g3 : ¬ (240 ≤ b ∧ b < 245) := by omega
      rw [if_neg h1, if_neg h2, if_neg h1, if_neg g1, if_neg g2, if_neg g3, if_neg (by decide), if_neg (by omega), if_neg (by decide), if_neg (by omega)]
      rfl
theorem dec_l0 (s : ByteArray) (n : Nat) (hs : n ≤ s.size) (hn : n ≤ 4) : ∀ (d : Nat) (x : Int) (i m : Nat), i + d = n → 1 ≤ i → m + d ≤ 3 → 0 ≤ x → x < 128 * 64 ^ m → Ev (fun k => utf_Decode.l0 k s x n i) (decL s n d x i)
  | 0, x, i, m, hi, h1, hm, h0, hx => by
    refine ⟨2, fun k hk => ?_⟩
    obtain ⟨k, rfl⟩ : ∃ j, k = j + 2 := ⟨k - 2, by omega⟩
    simp only [utf_Decode.l0, decL]
    rw [if_neg (by omega), width_f]
    simp only [Option.bind_some]
    by_cases h : widthF x = n
    · rw [if_pos (by omega), if_pos h]
    · rw [if_neg (by omega), if_neg h]
  | d + 1, x, i, m, hi, h1, hm, h0, hx => by
    have hb := byteI_in s i
    have hx9 : x ≤ 1000000000 := by
      have : m = 0 ∨ m = 1 ∨ m = 2 := by omega
      rcases this with rfl | rfl | rfl <;> omega
    have hstep : ∀ k, utf_Decode.l0 (k + 1) s x n i = if 128 ≤ byteI s i ∧ byteI s i ≤ 191 then utf_Decode.l0 k s (x * 64 + byteI s i % 64) n ((i + 1 : Nat) : Int) else some (-1, 1) := by
      intro k
      simp only [utf_Decode.l0]
      rw [if_pos (by omega), if_pos (by omega), if_pos (by omega), bt_byteI]
      by_cases h : 128 ≤ byteI s i ∧ byteI s i ≤ 191
      · rw [if_pos ((and192_iff hb).2 h), if_pos h, and63_eq hb, wrap_in (x := x * 64) (by omega) (by omega), wrap_in (x := byteI s i % 64) (by omega) (by omega), or_six h0 hx9 (by omega) (by omega), wrap_to (x := (i : Int) + 1) (y := ((i + 1 : Nat) : Int)) (by omega) (by omega) (by omega)]
      · rw [if_neg (fun g => h ((and192_iff hb).1 g)), if_neg h]
    unfold decL
    by_cases h : 128 ≤ byteI s i ∧ byteI s i ≤ 191
    · rw [if_pos h]
      refine Ev.step (fun k => by rw [hstep k, if_pos h]) (dec_l0 s n hs hn d _ (i + 1) (m + 1) (by omega) (by omega) (by omega) (by omega) ?_)
      have : m = 0 ∨ m = 1 ∨ m = 2 := by omega
      rcases this with rfl | rfl | rfl <;> omega
    · rw [if_neg h]
      exact Ev.step (fun k => by rw [hstep k, if_neg h]) (Ev.now _)
theorem dec_ev (s : ByteArray) : Ev (fun k => utf_Decode.f k s) (decV s) := by
  unfold decV utf_Decode.f
  by_cases h0 : s.size = 0
  · have e : s.toList = ([] : List UInt8) := by
      rw [ByteArray.toList_eq]
      exact List.length_eq_zero_iff.1 (by simpa using h0)
    rw [if_pos h0]
    simp only [if_pos e]
    exact Ev.now _
  · rw [if_neg h0]
    have e : ¬ s.toList = ([] : List UInt8) := by
      intro e
      rw [ByteArray.toList_eq] at e
      have := congrArg List.length e
      rw [Array.length_toList] at this
      exact h0 this
    simp only [if_neg e, if_pos (show 0 < (s.size : Int) by omega)]
    have hb := byteI_in s 0
    have hbt : bt s 0 = byteI s 0 := bt_byteI s 0
    rw [hbt]
    refine Ev.bind (a := (longV (byteI s 0) : Int)) ⟨2, fun k hk => by obtain ⟨k, rfl⟩ : ∃ j, k = j + 2 := ⟨k - 2, by omega⟩; exact long_fv k _⟩ ?_
    by_cases h1 : longV (byteI s 0) = 0
    · rw [if_pos (.inl h1)]
      simp only [if_pos (show ((longV (byteI s 0) : Nat) : Int) = 0 by omega)]
      exact Ev.step (fun k => by simp only [utf_Decode.j0]; rfl) (Ev.now _)
    · simp only [if_neg (show ¬ ((longV (byteI s 0) : Nat) : Int) = 0 by omega)]
      by_cases h2 : s.size < longV (byteI s 0)
      · rw [if_pos (.inr h2)]
        refine Ev.step (fun k => by simp only [utf_Decode.j0]; rw [if_pos (by simp; omega)]) (Ev.now _)
      · rw [if_neg (by omega)]
        have hx := xor_lead hb h1
        have hl4 := longV_le (byteI s 0)
        refine Ev.step (f := fun k => utf_Decode.l0 k s (byteI s 0 - leadV (longV (byteI s 0))) (longV (byteI s 0)) 1) (fun k => ?_) (dec_l0 s _ (by omega) hl4 _ _ 1 0 (by omega) (by omega) (by omega) hx.2.1 (by omega))
        simp only [utf_Decode.j0]
        rw [if_neg (by simp; omega), if_pos (by omega)]
        rw [show utf_lead.f ((longV (byteI s 0) : Nat) : Int) = some (leadV (longV (byteI s 0))) by unfold utf_lead.f; rw [if_pos (by omega), Int.toNat_natCast]]
        simp only [Option.bind_some]
        rw [hbt, hx.1, wrap_in (x := byteI s 0 - leadV (longV (byteI s 0))) (by omega) (by omega)]
theorem split_f (a b : Int) : bands_Split.f a b = some ((splitL a b).map (List.map toRg)) := rfl
theorem back_rg (q : List (Int × Int)) : (q.map toRg).map (fun x => (x.f0, x.f1)) = q := by
  rw [List.map_map]
  exact List.map_id'' (fun x => rfl) q
theorem back_seqs (X : List (List (Int × Int))) : (X.map (List.map toRg)).map (List.map fun x => (x.f0, x.f1)) = X := by
  rw [List.map_map]
  exact List.map_id'' (fun q => back_rg q) X
theorem long_f (X : List (List (Int × Int))) (s : ByteArray) (h : X.length ≤ 1000000000) (hq : ∀ q ∈ X, q.length ≤ 1000000) : bands_Long.f (X.map (List.map toRg)) s = some (longF s X) := by
  unfold bands_Long.f
  rw [back_seqs, if_pos]
  refine ⟨by rw [List.length_map]; exact h, List.all_eq_true.2 fun q hq' => ?_⟩
  obtain ⟨p, hp, rfl⟩ := List.mem_map.1 hq'
  rw [List.length_map]
  exact decide_eq_true (hq p hp)
theorem of_l0 (m : List (Int × Int)) (hm : m.length ≤ 60) (d : Nat) : ∀ (i : Nat) (acc : List (List (Int × Int))), i + d = m.length → acc.length ≤ i * 5570560 →
    Ev (fun k => bands_Of.l0 k (acc.map (List.map toRg)) (m.map toRg) (m.length : Int) i) ((acc ++ (m.drop i).flatMap fun x => splitL x.1 x.2).map (List.map toRg)) := by
  induction d with
  | zero =>
    intro i acc hi ha
    refine Ev.step (fun k => ?_) (Ev.now _)
    simp only [bands_Of.l0]
    rw [if_neg (by omega), List.drop_of_length_le (by omega)]
    simp
  | succ d ih =>
    intro i acc hi ha
    have hlt : i < m.length := by omega
    have hsl := splitL_len m[i].1 m[i].2
    rw [List.drop_eq_getElem_cons hlt, List.flatMap_cons, ← List.append_assoc]
    have hstep : ∀ k, bands_Of.l0 (k + 1) (acc.map (List.map toRg)) (m.map toRg) (m.length : Int) i = bands_Of.l0 k ((acc ++ splitL m[i].1 m[i].2).map (List.map toRg)) (m.map toRg) (m.length : Int) ((i + 1 : Nat) : Int) := by
      intro k
      simp only [bands_Of.l0]
      rw [if_pos (by omega), if_pos (by omega), if_pos (by simp; omega), rd_rg m i hlt, split_f, Option.bind_some, List.length_map, List.length_map]
      rw [show (toRg m[i]).f0 = m[i].1 from rfl, show (toRg m[i]).f1 = m[i].2 from rfl, if_pos (by omega), ← List.map_append, wrap_to (x := (i : Int) + 1) (y := ((i + 1 : Nat) : Int)) (by omega) (by omega) (by omega)]
    exact Ev.step hstep (ih (i + 1) _ (by omega) (by rw [List.length_append]; omega))
theorem of_ev (l : List S41) (hl : l.length ≤ 60) : Ev (fun k => bands_Of.f k l) ((ofL (l.map ofRg)).map (List.map toRg)) := by
  unfold bands_Of.f
  refine Ev.bind (norm_ev l (by omega)) ?_
  have hn : (normL (l.map ofRg)).length ≤ 60 := by have := normL_len (l.map ofRg); rw [List.length_map] at this; omega
  have := of_l0 (normL (l.map ofRg)) hn (normL (l.map ofRg)).length 0 [] (by omega) (by simp)
  rw [List.length_map]
  exact this
theorem ofL_len (l : List S41) (hl : l.length ≤ 60) : (ofL (l.map ofRg)).length ≤ 1000000000 := by
  have hn := normL_len (l.map ofRg)
  rw [List.length_map] at hn
  have := of_len (normL (l.map ofRg))
  unfold ofL
  omega
theorem ofL_q (l : List (Int × Int)) : ∀ q ∈ ofL l, q.length ≤ 1000000 := fun q hq => by have := ofL_seq q hq; omega
theorem long_of (l : List S41) (hl : l.length ≤ 60) (s : ByteArray) : bands_Long.f ((ofL (l.map ofRg)).map (List.map toRg)) s = some (longF s (ofL (l.map ofRg))) := long_f _ s (ofL_len l hl) (ofL_q _)
theorem works_ev : Ev burinlaw05_works.f true := by
  unfold burinlaw05_works.f
  have e1 : bands_Split.f 128 2047 = some [[(⟨194, 223⟩ : S41), ⟨128, 191⟩]] := by rw [split_f, split_two]; rfl
  have e2 : bands_Split.f 0 1114111 = some ((splitL 0 1114111).map (List.map toRg)) := split_f _ _
  have e3 : ((splitL 0 1114111).map (List.map toRg)).length = 9 := by rw [List.length_map, split_all]
  refine Ev.bind (by rw [e1]; exact Ev.now _) ?_
  simp only [List.length_singleton, if_pos (show (((1 : Nat) : Int) = 1) by decide), if_pos (show (0 : Int) < ((1 : Nat) : Int) by decide)]
  refine Ev.bind (a := true) (Ev.of (fun k => burinbook_SameRanges.mono _ _ _) (k := 4) (by decide +kernel)) ?_
  simp only [if_true]
  refine Ev.bind (by rw [e2]; exact Ev.now _) ?_
  simp only [e3, if_pos (show (((9 : Nat) : Int) = 9) by decide)]
  refine Ev.congr (f := fun _ => some true) (fun k => ?_) (Ev.now _)
  have := long_f [[(194, 223), (128, 191)]] ⟨#[195, 169, 120]⟩ (by decide) (by decide)
  rw [show ([[(194, 223), (128, 191)]] : List (List (Int × Int))).map (List.map toRg) = [[(⟨194, 223⟩ : S41), ⟨128, 191⟩]] from rfl] at this
  rw [this]
  decide +kernel
theorem has_f (l : List S41) (r : Int) : ranges_Has.f l r = some (hasL (l.map ofRg) r) := rfl
theorem has_norm (l : List (Int × Int)) (r : Int) : inL (normL l) r = hasL l r := normL_in l r
theorem j0_ev (l : List S41) (r : Int) (s : ByteArray) (hs : s.size ≤ 140737488351232) (hl : l.length ≤ 20) : Ev (fun k => burinlaw05_BandsRunes.j0 k l r s ((ofL (l.map ofRg)).map (List.map toRg))) true := by
  refine Ev.step (fun k => by simp only [burinlaw05_BandsRunes.j0]; exact rfl) ?_
  by_cases hw : widthF r = 0
  · have e : utf_Encode.f r = some ((⟨#[]⟩ : ByteArray), 1) := by unfold utf_Encode.f; rw [if_pos hw]
    rw [e]
    simp only [Option.bind_some]
    rw [if_neg (by decide)]
    exact Ev.now _
  · have e : utf_Encode.f r = some (strOfNums (encN (widthF r) r), 0) := by unfold utf_Encode.f; rw [if_neg hw]
    have hr := width_in hw
    have hsz : (strOfNums (encN (widthF r) r)).size = widthF r := by rw [strOfNums_size, encN_len _ hr.1.1]
    rw [e]
    simp only [Option.bind_some]
    rw [if_pos trivial, if_pos (by rw [hsz]; omega), long_of l (by omega)]
    simp only [Option.bind_some, has_f, hsz]
    have hst := starts_nums hw s
    obtain ⟨P, eP, hP⟩ := of_pieces (normL (l.map ofRg)) (normL_nrm _)
    rw [show ofL (l.map ofRg) = P.map seq3 from eP]
    rcases long_cases (fun p hp => (hP.all p hp).1) (strOfNums (encN (widthF r) r) ++ s) with ⟨h0, hno⟩ | ⟨p, hp, q, h1, h2, h3, h4⟩
    · have hh : hasL (l.map ofRg) r = false := by
        rw [← has_norm]
        rw [Bool.eq_false_iff]
        intro hh
        obtain ⟨p, hp, h1, h2⟩ := hP.cover r hw hh
        have := (hP.all p hp).1.w.width h1 h2
        exact hno p hp r h1 h2 (this ▸ hst)
      rw [h0, hh]
      simp only [if_neg (show ¬ (0 : Int) = ((widthF r : Nat) : Int) by omega), if_true]
      exact Ev.now _
    · have hwq := (hP.all p hp).1.w.width h1 h2
      obtain ⟨e1, rfl⟩ := h3.unique hwq (hP.all p hp).1.w.n1.1 hst rfl hr.1.1
      have hh : hasL (l.map ofRg) q = true := by
        rw [← has_norm]
        exact hP.back hp h1 h2
      rw [h4, e1, hh]
      simp only [if_true]
      exact Ev.now _
theorem BandsRunes (l : List S41) (r : Int) (s : ByteArray) (hs : s.size ≤ 140737488351232) : ∃ k, burinlaw05_BandsRunes.f k l r s = some true := by
  refine Ev.rounds (Ev.bind works_ev ?_)
  simp only [if_true]
  by_cases hl : (l.length : Int) > 20
  · simp only [if_pos hl]
    exact Ev.now _
  · simp only [if_neg hl]
    refine Ev.bind (of_ev l (by omega)) ?_
    rw [long_of l (by omega)]
    simp only [Option.bind_some]
    obtain ⟨P, eP, hP⟩ := of_pieces (normL (l.map ofRg)) (normL_nrm _)
    rcases long_cases (fun p hp => (hP.all p hp).1) s with ⟨h0, hno⟩ | ⟨p, hp, q, h1, h2, h3, h4⟩
    · rw [show ofL (l.map ofRg) = P.map seq3 from eP, h0]
      simp only [if_neg (show ¬ (0 : Int) > 0 by omega)]
      rw [← show ofL (l.map ofRg) = P.map seq3 from eP]
      exact j0_ev l r s hs (by omega)
    · have hn := (hP.all p hp).1.w.n1
      have hwq := (hP.all p hp).1.w.width h1 h2
      have hin := (hP.all p hp).1.w.inr
      rw [show longF s (ofL (l.map ofRg)) = p.1 by rw [show ofL (l.map ofRg) = P.map seq3 from eP]; exact h4]
      simp only [if_pos (show ((p.1 : Nat) : Int) > 0 by omega)]
      refine Ev.bind (dec_ev s) ?_
      rw [decV_starts hwq hn.1 h3]
      simp only [if_true]
      simp only [if_neg (show ¬ q < 0 by omega), has_f, ← has_norm, hP.back hp h1 h2, Option.bind_some, if_true]
      exact j0_ev l r s hs (by omega)
end Go.Proofs.Ytoihlfiacnljhaa.Pure
