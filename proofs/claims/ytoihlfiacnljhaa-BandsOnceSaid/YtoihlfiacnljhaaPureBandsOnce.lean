/- BandsOnce: of a set's sequences at most one takes a text; they rise, each as long as its runes' bytes, none of their ranges empty; no condition. -/
import Derived.Test.YtoihlfiacnljhaaHBandsOncex5
import Derived.Test.YtoihlfiacnljhaaXBandsOnceMath
import Derived.Laws.Cover1
namespace Go.Proofs.Ytoihlfiacnljhaa.Pure
open Go.RowKit Go.Proofs.Ytoihlfiacnljhaa.HBandsOnce Go.Proofs.YtoihlfiacnljhaaW.PrintWords Go.Proofs.YtoihlfiacnljhaaW.PrintLast
open Go.Proofs.YtoihlfiacnljhaaX
set_option linter.unusedVariables false
set_option linter.unusedSimpArgs false
theorem wrap_to {x y : Int} (e : x = y) (h0 : -9223372036854775808 ≤ y) (h1 : y ≤ 9223372036854775807) : wrap64 x = y := by
  subst e
  exact wrap_in h0 h1
theorem width_f (k : Nat) (r : Int) : utf_Width.f (k + 1) r = some (widthF r : Int) := by
  simp only [utf_Width.f, utf_Width.j0, widthF]
  by_cases h1 : r < 0
  · simp [h1]
  · by_cases h2 : r > 1114111
    · simp [h1, h2]
    · by_cases h3 : r ≥ 55296
      · by_cases h4 : r ≤ 57343
        · simp [h1, h2, h3, h4]
        · have h5 : ¬ r ≤ 127 := by omega
          have h6 : ¬ r ≤ 2047 := by omega
          by_cases h7 : r ≤ 65535 <;> simp [h1, h2, h3, h4, h5, h6, h7]
      · have h4 : ¬ (r < 0 ∨ r > 1114111 ∨ (55296 ≤ r ∧ r ≤ 57343)) := by omega
        rw [if_neg h1, if_neg h2, if_neg h3, if_neg h4, if_neg (by decide)]
        by_cases h5 : r ≤ 127
        · simp [h5]
        · by_cases h6 : r ≤ 2047
          · simp [h5, h6]
          · by_cases h7 : r ≤ 65535 <;> simp [h5, h6, h7]
theorem long_fv (k : Nat) (b : Int) : utf_long.f (k + 2) b = some (longV b : Int) := by
  simp only [utf_long.f, utf_long.j0, utf_long.j1, longV]
  by_cases h1 : b ≤ 127
  · simp [h1]
  · by_cases h2 : b ≥ 194
    · by_cases h3 : b < 224
      · simp [h1, h2, h3]
      · have g : ¬ (194 ≤ b ∧ b < 224) := by omega
        have h4 : b ≥ 224 := by omega
        rw [if_neg h1, if_pos h2, if_neg h1, if_neg g, if_neg (by simpa using h3), if_pos h4]
        by_cases h5 : b < 240
        · simp [h4, h5]
        · have g2 : ¬ (224 ≤ b ∧ b < 240) := by omega
          have h6 : b ≥ 240 := by omega
          rw [if_neg (by simpa using h5), if_pos h6, if_neg g2]
          by_cases h7 : b < 245
          · simp [h6, h7]
          · simp [h7]
    · have g1 : ¬ (194 ≤ b ∧ b < 224) := by omega
      have g2 : ¬ (224 ≤ b ∧ b < 240) := by omega
      have g3 : ¬ (240 ≤ b ∧ b < 245) := by omega
      rw [if_neg h1, if_neg h2, if_neg h1, if_neg g1, if_neg g2, if_neg g3, if_neg (by decide), if_neg (by omega), if_neg (by decide), if_neg (by omega)]
      rfl
theorem dec_l0 (s : ByteArray) (n : Nat) (hs : n ≤ s.size) (hn : n ≤ 4) : ∀ (d : Nat) (x : Int) (i m : Nat), i + d = n → 1 ≤ i → m + d ≤ 3 → 0 ≤ x → x < 128 * 64 ^ m → Ev (fun k => utf_Decode.l0 k s x n i) (decL s n d x i)
  | 0, x, i, m, hi, h1, hm, h0, hx => by
    refine ⟨2, fun k hk => ?_⟩
    obtain ⟨k, rfl⟩ : ∃ j, k = j + 2 := ⟨k - 2, by omega⟩
    simp only [utf_Decode.l0, decL]
    rw [if_neg (by omega), width_f]
    simp only [Option.bind_some]
    by_cases h : widthF x = n
    · rw [if_pos (by omega), if_pos h]
    · rw [if_neg (by omega), if_neg h]
  | d + 1, x, i, m, hi, h1, hm, h0, hx => by
    have hb := byteI_in s i
    have hx9 : x ≤ 1000000000 := by
      have : m = 0 ∨ m = 1 ∨ m = 2 := by omega
      rcases this with rfl | rfl | rfl <;> omega
    have hstep : ∀ k, utf_Decode.l0 (k + 1) s x n i = if 128 ≤ byteI s i ∧ byteI s i ≤ 191 then utf_Decode.l0 k s (x * 64 + byteI s i % 64) n ((i + 1 : Nat) : Int) else some (-1, 1) := by
      intro k
      simp only [utf_Decode.l0]
      rw [if_pos (by omega), if_pos (by omega), if_pos (by omega), bt_byteI]
      by_cases h : 128 ≤ byteI s i ∧ byteI s i ≤ 191
      · rw [if_pos ((and192_iff hb).2 h), if_pos h, and63_eq hb, wrap_in (x := x * 64) (by omega) (by omega), wrap_in (x := byteI s i % 64) (by omega) (by omega), or_six h0 hx9 (by omega) (by omega), wrap_to (x := (i : Int) + 1) (y := ((i + 1 : Nat) : Int)) (by omega) (by omega) (by omega)]
      · rw [if_neg (fun g => h ((and192_iff hb).1 g)), if_neg h]
    unfold decL
    by_cases h : 128 ≤ byteI s i ∧ byteI s i ≤ 191
    · rw [if_pos h]
      refine Ev.step (fun k => by rw [hstep k, if_pos h]) (dec_l0 s n hs hn d _ (i + 1) (m + 1) (by omega) (by omega) (by omega) (by omega) ?_)
      have : m = 0 ∨ m = 1 ∨ m = 2 := by omega
      rcases this with rfl | rfl | rfl <;> omega
    · rw [if_neg h]
      exact Ev.step (fun k => by rw [hstep k, if_neg h]) (Ev.now _)
theorem dec_ev (s : ByteArray) : Ev (fun k => utf_Decode.f k s) (decV s) := by
  unfold decV utf_Decode.f
  by_cases h0 : s.size = 0
  · have e : s.toList = ([] : List UInt8) := by
      rw [ByteArray.toList_eq]
      exact List.length_eq_zero_iff.1 (by simpa using h0)
    rw [if_pos h0]
    simp only [if_pos e]
    exact Ev.now _
  · rw [if_neg h0]
    have e : ¬ s.toList = ([] : List UInt8) := by
      intro e
      rw [ByteArray.toList_eq] at e
      have := congrArg List.length e
      rw [Array.length_toList] at this
      exact h0 this
    simp only [if_neg e, if_pos (show 0 < (s.size : Int) by omega)]
    have hb := byteI_in s 0
    have hbt : bt s 0 = byteI s 0 := bt_byteI s 0
    rw [hbt]
    refine Ev.bind (a := (longV (byteI s 0) : Int)) ⟨2, fun k hk => by obtain ⟨k, rfl⟩ : ∃ j, k = j + 2 := ⟨k - 2, by omega⟩; exact long_fv k _⟩ ?_
    by_cases h1 : longV (byteI s 0) = 0
    · rw [if_pos (.inl h1)]
      simp only [if_pos (show ((longV (byteI s 0) : Nat) : Int) = 0 by omega)]
      exact Ev.step (fun k => by simp only [utf_Decode.j0]; rfl) (Ev.now _)
    · simp only [if_neg (show ¬ ((longV (byteI s 0) : Nat) : Int) = 0 by omega)]
      by_cases h2 : s.size < longV (byteI s 0)
      · rw [if_pos (.inr h2)]
        refine Ev.step (fun k => by simp only [utf_Decode.j0]; rw [if_pos (by simp; omega)]) (Ev.now _)
      · rw [if_neg (by omega)]
        have hx := xor_lead hb h1
        have hl4 := longV_le (byteI s 0)
        refine Ev.step (f := fun k => utf_Decode.l0 k s (byteI s 0 - leadV (longV (byteI s 0))) (longV (byteI s 0)) 1) (fun k => ?_) (dec_l0 s _ (by omega) hl4 _ _ 1 0 (by omega) (by omega) (by omega) hx.2.1 (by omega))
        simp only [utf_Decode.j0]
        rw [if_neg (by simp; omega), if_pos (by omega)]
        rw [show utf_lead.f ((longV (byteI s 0) : Nat) : Int) = some (leadV (longV (byteI s 0))) by unfold utf_lead.f; rw [if_pos (by omega), Int.toNat_natCast]]
        simp only [Option.bind_some]
        rw [hbt, hx.1, wrap_in (x := byteI s 0 - leadV (longV (byteI s 0))) (by omega) (by omega)]
theorem split_f (a b : Int) : bands_Split.f a b = some ((splitL a b).map (List.map toRg)) := rfl
theorem back_rg (q : List (Int × Int)) : (q.map toRg).map (fun x => (x.f0, x.f1)) = q := by
  rw [List.map_map]
  exact List.map_id'' (fun x => rfl) q
theorem back_seqs (X : List (List (Int × Int))) : (X.map (List.map toRg)).map (List.map fun x => (x.f0, x.f1)) = X := by
  rw [List.map_map]
  exact List.map_id'' (fun q => back_rg q) X
theorem long_f (X : List (List (Int × Int))) (s : ByteArray) (h : X.length ≤ 1000000000) (hq : ∀ q ∈ X, q.length ≤ 1000000) : bands_Long.f (X.map (List.map toRg)) s = some (longF s X) := by
  unfold bands_Long.f
  rw [back_seqs, if_pos]
  refine ⟨by rw [List.length_map]; exact h, List.all_eq_true.2 fun q hq' => ?_⟩
  obtain ⟨p, hp, rfl⟩ := List.mem_map.1 hq'
  rw [List.length_map]
  exact decide_eq_true (hq p hp)
theorem of_l0 (m : List (Int × Int)) (hm : m.length ≤ 60) (d : Nat) : ∀ (i : Nat) (acc : List (List (Int × Int))), i + d = m.length → acc.length ≤ i * 5570560 →
    Ev (fun k => bands_Of.l0 k (acc.map (List.map toRg)) (m.map toRg) (m.length : Int) i) ((acc ++ (m.drop i).flatMap fun x => splitL x.1 x.2).map (List.map toRg)) := by
  induction d with
  | zero =>
    intro i acc hi ha
    refine Ev.step (fun k => ?_) (Ev.now _)
    simp only [bands_Of.l0]
    rw [if_neg (by omega), List.drop_of_length_le (by omega)]
    simp
  | succ d ih =>
    intro i acc hi ha
    have hlt : i < m.length := by omega
    have hsl := splitL_len m[i].1 m[i].2
    rw [List.drop_eq_getElem_cons hlt, List.flatMap_cons, ← List.append_assoc]
    have hstep : ∀ k, bands_Of.l0 (k + 1) (acc.map (List.map toRg)) (m.map toRg) (m.length : Int) i = bands_Of.l0 k ((acc ++ splitL m[i].1 m[i].2).map (List.map toRg)) (m.map toRg) (m.length : Int) ((i + 1 : Nat) : Int) := by
      intro k
      simp only [bands_Of.l0]
      rw [if_pos (by omega), if_pos (by omega), if_pos (by simp; omega), rd_rg m i hlt, split_f, Option.bind_some, List.length_map, List.length_map]
      rw [show (toRg m[i]).f0 = m[i].1 from rfl, show (toRg m[i]).f1 = m[i].2 from rfl, if_pos (by omega), ← List.map_append, wrap_to (x := (i : Int) + 1) (y := ((i + 1 : Nat) : Int)) (by omega) (by omega) (by omega)]
    exact Ev.step hstep (ih (i + 1) _ (by omega) (by rw [List.length_append]; omega))
theorem of_ev (l : List S41) (hl : l.length ≤ 60) : Ev (fun k => bands_Of.f k l) ((ofL (l.map ofRg)).map (List.map toRg)) := by
  unfold bands_Of.f
  refine Ev.bind (norm_ev l (by omega)) ?_
  have hn : (normL (l.map ofRg)).length ≤ 60 := by have := normL_len (l.map ofRg); rw [List.length_map] at this; omega
  have := of_l0 (normL (l.map ofRg)) hn (normL (l.map ofRg)).length 0 [] (by omega) (by simp)
  rw [List.length_map]
  exact this
theorem ofL_len (l : List S41) (hl : l.length ≤ 60) : (ofL (l.map ofRg)).length ≤ 1000000000 := by
  have hn := normL_len (l.map ofRg)
  rw [List.length_map] at hn
  have := of_len (normL (l.map ofRg))
  unfold ofL
  omega
theorem ofL_q (l : List (Int × Int)) : ∀ q ∈ ofL l, q.length ≤ 1000000 := fun q hq => by have := ofL_seq q hq; omega
theorem long_of (l : List S41) (hl : l.length ≤ 60) (s : ByteArray) : bands_Long.f ((ofL (l.map ofRg)).map (List.map toRg)) s = some (longF s (ofL (l.map ofRg))) := long_f _ s (ofL_len l hl) (ofL_q _)
theorem works_ev : Ev burinlaw05_works.f true := by
  unfold burinlaw05_works.f
  have e1 : bands_Split.f 128 2047 = some [[(⟨194, 223⟩ : S41), ⟨128, 191⟩]] := by rw [split_f, split_two]; rfl
  have e2 : bands_Split.f 0 1114111 = some ((splitL 0 1114111).map (List.map toRg)) := split_f _ _
  have e3 : ((splitL 0 1114111).map (List.map toRg)).length = 9 := by rw [List.length_map, split_all]
  refine Ev.bind (by rw [e1]; exact Ev.now _) ?_
  simp only [List.length_singleton, if_pos (show (((1 : Nat) : Int) = 1) by decide), if_pos (show (0 : Int) < ((1 : Nat) : Int) by decide)]
  refine Ev.bind (a := true) (Ev.of (fun k => burinbook_SameRanges.mono _ _ _) (k := 4) (by decide +kernel)) ?_
  simp only [if_true]
  refine Ev.bind (by rw [e2]; exact Ev.now _) ?_
  simp only [e3, if_pos (show (((9 : Nat) : Int) = 9) by decide)]
  refine Ev.congr (f := fun _ => some true) (fun k => ?_) (Ev.now _)
  have := long_f [[(194, 223), (128, 191)]] ⟨#[195, 169, 120]⟩ (by decide) (by decide)
  rw [show ([[(194, 223), (128, 191)]] : List (List (Int × Int))).map (List.map toRg) = [[(⟨194, 223⟩ : S41), ⟨128, 191⟩]] from rfl] at this
  rw [this]
  decide +kernel
/-! The contracts, told by pairs. -/
theorem toC {A : Option Addr} {a : List (Int × Int)} {w : World} (h : Kd.C kRg w A a.length a) : Kd.C k41 w A (a.map toRg).length (a.map toRg) := by
  rw [rg_kd, List.length_map]
  exact C_iso.2 (by rw [map_forth]; exact h)
theorem fromR {e base : Nat} {ok : Nat → Prop} {v : Value} {a : List (Int × Int)} {w : World} (h : Kd.R k41 e w base ok v (a.map toRg)) : Kd.R kRg e w base ok v a := by
  have := R_iso.1 (rg_kd ▸ h)
  rwa [map_forth] at this
theorem works_at {w : World} : Calls Try.prog 9 #[] w (fun e w' => e = .returned (.bool true) ∧ Below w.heap.size w w') := by
  obtain ⟨k, hk⟩ := Ev.rounds works_ev
  exact burinlaw05_works.calls k true w hk
theorem dec_at (n : Nat) (r : Int) (hn : 1 ≤ n) (hr : widthF r = n) (w : World) : Calls Try.prog 23 #[.string (strOfNums (encN n r))] w (fun e w' => e = .returned (.tuple #[.int .i64 r, .int .i64 n]) ∧ Below w.heap.size w w') := by
  obtain ⟨k, hk⟩ := Ev.rounds (dec_ev (strOfNums (encN n r)))
  have hst := starts_nums0 (r := r) (by omega)
  rw [hr] at hst
  rw [decV_starts hr hn hst] at hk
  exact utf_Decode.calls k _ r n w hk
theorem of_at {A : Option Addr} {c : Nat} {a : List (Int × Int)} {w : World} (hn : a.length ≤ 20) (h : Kd.C kRg w A a.length a) (hc : a.length ≤ c) : Calls Try.prog 19 #[.slice A a.length c] w (fun e w' => ∃ A c, e = .returned (.slice A (ofL a).length c) ∧ Kd.C kSeqs w' A (ofL a).length (ofL a) ∧ Below w.heap.size w w') := by
  obtain ⟨k, hk⟩ := Ev.rounds (of_ev (a.map toRg) (by rw [List.length_map]; omega))
  rw [map_forth] at hk
  have := bands_Of.calls k A c (a.map toRg) _ w (toC h) (by simpa using hc) hk
  rw [List.length_map] at this
  exact this.mono fun e w' ⟨v, he, hS, hb⟩ => by
    obtain ⟨A, c, rfl, hc, hC⟩ := Kd.N_reads hS
    have hC2 := (C_via (d := Kd.slice 41 k41) (d' := kSeqs) (g := List.map fun x : S41 => (x.f0, x.f1)) rfl (fun w x cs => slice_K)).1 hC
    rw [back_seqs, List.length_map] at hC2
    rw [List.length_map] at he
    exact ⟨A, c, he, hC2, hb⟩
/-- Long of one sequence. -/
theorem one_at {A : Option Addr} {c B : Nat} {q : List (Int × Int)} (s : ByteArray) {w : World} (h : Kd.C kRg w A q.length q) (hc : q.length ≤ c) (hn : q.length ≤ 1000000) (hB : w.cell? ⟨B, 0, none⟩ = some (.slice A q.length c)) :
    Calls Try.prog 13 #[.slice (some ⟨B, 0, none⟩) 1 1, .string s] w (fun e w' => e = .returned (.int .i64 (if takesF s q then q.length else 0)) ∧ Below w.heap.size w w') := by
  have hC : Kd.C kSeqs w (some ⟨B, 0, none⟩) [q].length [q] := by
    refine ⟨rfl, by simp, fun _ => ⟨⟨B, 0, none⟩, rfl, fun j p hj => ?_⟩⟩
    match j, hj with
    | 0, hj =>
      simp at hj
      subst hj
      refine ⟨[.slice A q.length c], rfl, ⟨A, c, rfl, hc, h⟩, fun i u hi => ?_⟩
      match i, hi with
      | 0, hi =>
        simp at hi
        subst hi
        exact hB
      | i + 1, hi => simp at hi
    | j + 1, hj => simp at hj
  have := long_any (some ⟨B, 0, none⟩) 1 [q] s w hC (by simp) (by simpa using hn)
  rw [longF, longF] at this
  have e : ((if takesF s q = true then (q.length : Int) else 0)) = ((if takesF s q = true then (q.length : Int) else 0)) := rfl
  exact this
theorem one_str (w : World) (x : Int) : (convert 42 9 (.slice (some ⟨w.heap.size, 0, none⟩) 1 1)).run Try.prog (w.alloc (.cells #[.int .u8 x] 5)) = .ok (.string (strOfNums [x])) (w.alloc (.cells #[.int .u8 x] 5)) := by
  refine Kd.C_string (xs := [x]) Try.underlying42 Try.underlying5 Try.underlying9 ⟨rfl, by omega, fun _ => ⟨⟨w.heap.size, 0, none⟩, rfl, ?_⟩⟩
  intro j p hj
  match j, hj with
  | 0, hj =>
    simp at hj
    subst hj
    refine ⟨[.int .u8 x], rfl, rfl, fun k u hk => ?_⟩
    match k, hk with
    | 0, hk =>
      simp at hk
      subst hk
      exact (blk_cell (heap_alloc_last w (.cells #[.int .u8 x] 5)) 0).trans rfl
    | k + 1, hk => simp at hk
  | j + 1, hj => simp at hj
set_option maxHeartbeats 4000000 in
set_option maxRecDepth 100000 in
theorem BandsOnce_walk (A0 : Option Addr) (c0 : Nat) (a : List (Int × Int)) (s : ByteArray) (w : World) (hCa : Kd.C kRg w A0 a.length a) (hca : a.length ≤ c0) (hs : s.size ≤ 140737488351232) :
    Calls Try.prog 6 #[.slice A0 a.length c0, .string s] w (fun e w' => e = .returned (.bool true) ∧ Below w.heap.size w w') := by
  have HW := Aside0.mk (works_at (w := w))
  by_cases ha : a.length ≤ 20
  · obtain ⟨P, eP, hP⟩ := of_pieces (normL a) (normL_nrm a)
    have HOF := Aside0.mk (fun (w : World) (h : Kd.C kRg w A0 a.length a) => of_at ha h hca)
    have HC := Aside0.mk hCa
    have hXl : (ofL a).length ≤ 1000000000 := by
      have h1 := normL_len a
      have h2 := of_len (normL a)
      unfold ofL
      omega
    rw [show ofL a = P.map seq3 from eP] at HOF hXl
    rw [List.length_map] at HOF hXl
    have HCN := Aside0.mk (cnt_le (fun p hp => (hP.all p hp).1) hP.apart s)
    have HPP := Aside0.mk (fun p (hp : p ∈ P) => (hP.all p hp).1)
    have HPA := Aside0.mk hP.apart
    clear hCa eP hP
    obtain ⟨m, hm⟩ : ∃ m, P.length = m := ⟨_, rfl⟩
    have HM := Aside0.mk hm
    rw [hm] at HOF hXl
    clear hm
    generalize a.length = n at *
    obtain ⟨Vs, hVs⟩ : ∃ Vs, Vs = Value.string s := ⟨_, rfl⟩
    have HVS := Aside0.mk hVs
    rw [← hVs]
    clear hVs
    go_enter Try.func6, Try.ntmps6
    go_wp2_with fail
    refine HW.out.mono ?_
    rintro e w1 ⟨rfl, hb1⟩
    have HB1 := Aside0.mk hb1
    clear hb1 HW
    go_wp2_with fail
    refine (HOF.out w1 (Kd.C_below HC.out HB1.out)).mono ?_
    rintro e w2 ⟨A2, c2, rfl, hC2, hb2⟩
    have HC2 := Aside0.mk hC2
    have HB2 := Aside0.mk (HB1.out.trans (hb2.mono HB1.out.size))
    clear hC2 hb2 HB1 HC HOF
    go_wp2_with fail
    have HLB := Aside0.mk (Below.refl w2.heap.size w2)
    go_loopg [6, 7, 24] m (fun gq s6 s7 s24 wr => ∃ (k : Nat) (cn : Nat) (last : ByteArray), k ≤ m ∧ m - k ≤ gq ∧ cn ≤ k ∧ s24 = .int .i64 k ∧ s6 = .int .i64 cn ∧ s7 = .string last ∧ Aside0 (cn = cntT s ((P.take k).map seq3)) ∧ Aside0 ((k = 0 ∧ last = ⟨#[]⟩) ∨ ∃ p ∈ P.take k, last = strOfNums (encN p.1 p.2.1) ∧ ∀ q ∈ P.drop k, p.2.2 < q.2.1) ∧ Aside0 (Below w2.heap.size w2 wr))
    case atStart => exact ⟨0, 0, ⟨#[]⟩, by omega, by omega, by omega, rfl, rfl, rfl, ⟨rfl⟩, ⟨.inl ⟨rfl, rfl⟩⟩, HLB⟩
    case round =>
      clear HLB
      obtain ⟨k, cn, last, hk, hgq, hcn, rfl, rfl, rfl, HCT, HLA, HB⟩ := hrel
      by_cases hlt : k < m
      · have hkP : k < P.length := by have := HM.out; omega
        obtain ⟨p, hp⟩ : ∃ p, p = P[k] := ⟨_, rfl⟩
        have hpm : p ∈ P := by rw [hp]; exact List.getElem_mem hkP
        have HPK := Aside0.mk (HPP.out p hpm)
        have HEP := Aside0.mk hp
        have hC := Kd.C_below HC2.out HB.out
        obtain ⟨ad, Aq, cq, rfl, hcell, hcq, hCq⟩ := C_seq_at (l := P.map seq3) (by rw [List.length_map, HM.out]; exact hC) (i := k) (by rw [List.length_map]; exact hkP)
        rw [List.getElem_map, ← hp] at hcell hcq hCq
        have hql : (seq3 p).length = p.1 := seqOf_len HPK.out.w.n1.1 _ _
        have hpn := HPK.out.w.n1
        have HQ := Aside0.mk hCq
        have HQL := Aside0.mk hql
        rw [hql] at hcell hcq
        clear hp hpm hC hCq hql
        go_wp2_with fail
        have hal := heap_alloc_last wr (.cells #[.slice Aq p.1 cq] 29)
        have hab := (Below.refl _ wr).alloc (Nat.le_refl _) (.cells #[.slice Aq p.1 cq] 29)
        have HLG := Aside0.mk (one_at (q := seq3 p) (B := wr.heap.size) (c := cq) (A := Aq) s (Kd.C_below HQ.out hab) (by rw [HQL.out]; exact hcq) (by rw [HQL.out]; omega) (by rw [HQL.out]; exact (blk_cell hal 0).trans rfl))
        rw [← HVS.out, HQL.out] at HLG
        have HBA := Aside0.mk (HB.out.trans (hab.mono HB.out.size))
        have HQA := Aside0.mk (Kd.C_below HQ.out hab)
        have HTK := Aside0.mk (show cntT s ((P.take (k + 1)).map seq3) = cn + if takesF s (seq3 p) = true then 1 else 0 by
          rw [List.take_succ_eq_append_getElem hkP, ← HEP.out, List.map_append, HCT.out]
          unfold cntT
          rw [List.countP_append]
          simp [List.countP_cons])
        clear hal hab HB HQ hcell
        generalize wr.alloc (.cells #[.slice Aq p.1 cq] 29) = w3 at HLG HBA HQA ⊢
        refine HLG.out.mono ?_
        obtain ⟨b, hb⟩ : ∃ b, takesF s (seq3 p) = b := ⟨_, rfl⟩
        rw [hb] at HTK
        rw [hb]
        clear hb HLG
        obtain ⟨cn2, hcn2⟩ : ∃ cn2, cn2 = cn + if b = true then 1 else 0 := ⟨_, rfl⟩
        have HC2' := Aside0.mk hcn2
        have hcn3 : cn2 ≤ k + 1 := by rw [hcn2]; split <;> omega
        rw [← hcn2] at HTK
        clear hcn2
        rintro e w4 ⟨rfl, hb4⟩
        have HB4 := Aside0.mk (HBA.out.trans (hb4.mono HBA.out.size))
        have HQ4 := Aside0.mk (Kd.C_below HQA.out hb4)
        clear hb4 HBA HQA
        cases b
        all_goals
          have hcc := HC2'.out
          simp at hcc
          subst hcc
          have hpd : decide (0 < p.1) = true := decide_eq_true (by omega)
          have hpd2 : decide ((0 : Int) < (p.1 : Int)) = true := decide_eq_true (by omega)
          go_wp2_with fail
          clear hpd hpd2
          have HL4 := Aside0.mk (Below.refl w4.heap.size w4)
          go_loopg [10, 37] p.1 (fun gq s10 s37 wr => ∃ (j : Nat) (S1 : ByteArray), j ≤ p.1 ∧ p.1 - j ≤ gq ∧ s37 = .int .i64 j ∧ s10 = .string S1 ∧ Aside0 (S1 = strOfNums ((encN p.1 p.2.1).take j)) ∧ Aside0 (Below w4.heap.size w4 wr))
          case atStart => exact ⟨0, ⟨#[]⟩, by omega, by omega, rfl, rfl, ⟨rfl⟩, HL4⟩
          case round =>
            clear HL4
            obtain ⟨j, S1, hj, hgj, rfl, rfl, HS1, HBj⟩ := hrel
            by_cases hjl : j < p.1
            · obtain ⟨y, hy, hx0, hxy, hy1⟩ := piece_at HPK.out j hjl
              obtain ⟨x, hx⟩ : ∃ x, x = (encN p.1 p.2.1)[j]'(by rw [encN_len _ HPK.out.w.n1.1]; exact hjl) := ⟨_, rfl⟩
              rw [← hx] at hy hx0 hxy
              have HST := Aside0.mk (show strOfNums ((encN p.1 p.2.1).take (j + 1)) = S1 ++ strOfNums [x] by
                rw [List.take_succ_eq_append_getElem (by rw [encN_len _ HPK.out.w.n1.1]; exact hjl), ← hx, str_append, HS1.out])
              have hjq : j < (seq3 p).length := by rw [HQL.out]; exact hjl
              have hcr := Kd.C_below HQ4.out HBj.out
              obtain ⟨bq, off, rfl, hbq, e1, e2⟩ := C_rg_at hcr hjq
              have hgy : (seq3 p)[j] = (x, y) := by
                rw [List.getElem?_eq_getElem hjq] at hy
                exact Option.some.inj hy
              rw [hgy] at e1 e2
              dsimp only at e1 e2
              have hS1 : S1.size ≤ 4 := by rw [HS1.out, strOfNums_size, List.length_take]; omega
              have hS2 : (strOfNums [x]).size = 1 := by rw [strOfNums_size]; rfl
              have hcs := one_str ((wr.alloc (.cells #[.int .i64 x, .int .i64 y] 41))) x
              rw [show ((wr.alloc (.cells #[.int .i64 x, .int .i64 y] 41))).heap.size = wr.heap.size + 1 by simp] at hcs
              have hwx : x % 256 = x := by omega
              have hwx2 : IntKind.u8.wrap x = x := by rw [IntKind.wrap_u8]; omega
              have HBj2 := Aside0.mk ((HBj.out.alloc HBj.out.size (.cells #[.int .i64 x, .int .i64 y] 41)).alloc (by simp; have := HBj.out.size; omega) (.cells #[.int .u8 x] 5))
              have hS2' : (strOfNums [x]).size ≤ 4 := by omega
              clear hx hy hcr hgy hS2
              generalize strOfNums [x] = S2 at HST hcs hS2'
              have hbn : bq ≠ wr.heap.size := by omega
              go_wp2_with fail
              go_roundg (p.1 - (j + 1))
              case measure => omega
              case rel =>
                refine ⟨j + 1, S1 ++ S2, by omega, by omega, by rw [show ((j : Int) + 1) = ((j + 1 : Nat) : Int) by omega], ?_, ⟨HST.out.symm⟩, HBj2⟩
                rfl
            · obtain rfl : j = p.1 := by omega
              have hS : S1 = strOfNums (encN p.1 p.2.1) := by
                rw [HS1.out, List.take_of_length_le (by rw [encN_len _ HPK.out.w.n1.1]; exact Nat.le_refl _)]
              have HD := Aside0.mk (fun w => dec_at p.1 p.2.1 HPK.out.w.n1.1 (HPK.out.w.width (Int.le_refl _) HPK.out.w.le) w)
              have HSS := Aside0.mk hS
              rw [← hS] at HD
              have hlo : 0 ≤ p.2.1 := HPK.out.w.inr.1
              have hlo1 : decide (p.2.1 < 0) = false := decide_eq_false (by omega)
              have hpe : ((p.1 : Int) != (p.1 : Int)) = false := by simp
              have HLA2 := Aside0.mk (show (k = 0 ∧ last = ⟨#[]⟩) ∨ (Op.bytesLess S1.toList last.toList || S1.toList == last.toList) = false by
                rcases HLA.out with h | ⟨p', hp', hl', hlt'⟩
                · exact .inl h
                · refine .inr ?_
                  have hpk' := HPP.out p' (List.mem_of_mem_take hp')
                  have hw1 := hpk'.w.width (Int.le_refl _) hpk'.w.le
                  have hw2 := HPK.out.w.width (Int.le_refl _) HPK.out.w.le
                  have hn1 := hpk'.w.n1
                  have hn2 := HPK.out.w.n1
                  have hltp := hlt' p (by rw [HEP.out]; exact List.mem_iff_getElem.2 ⟨0, by rw [List.length_drop]; omega, by simp⟩)
                  have hle' := hpk'.w.le
                  have hir := hpk'.w.inr
                  have hir2 := HPK.out.w.inr
                  rw [hS, hl']
                  have hless := enc_less (a := p'.2.1) (b := p.2.1) (by omega) (by omega) (by omega)
                  rw [hw1, hw2] at hless
                  exact str_less (encN_in hn2 hw2 ⟨hir2.1, by have := HPK.out.w.le; omega⟩) (encN_in hn1 hw1 ⟨hir.1, by omega⟩) hless)
              clear hS HS1 HLA
              go_wp2_with fail
              refine (HD.out _).mono ?_
              rintro e w5 ⟨rfl, hb5⟩
              have HB5 := Aside0.mk (HB4.out.trans ((HBj.out.trans (hb5.mono HBj.out.size)).mono HB4.out.size))
              clear hb5 HBj HD
              have HLN := Aside0.mk (show (k + 1 = 0 ∧ S1 = ⟨#[]⟩) ∨ ∃ p ∈ P.take (k + 1), S1 = strOfNums (encN p.1 p.2.1) ∧ ∀ q ∈ P.drop (k + 1), p.2.2 < q.2.1 by
                refine .inr ⟨p, ?_, HSS.out, ?_⟩
                · rw [HEP.out]
                  exact List.mem_iff_getElem.2 ⟨k, by rw [List.length_take]; omega, by simp⟩
                · intro q hq
                  have h1 := HPA.out
                  rw [← List.take_append_drop (k + 1) P, List.pairwise_append] at h1
                  refine h1.2.2 p ?_ q hq
                  rw [HEP.out]
                  exact List.mem_iff_getElem.2 ⟨k, by rw [List.length_take]; omega, by simp⟩)
              rcases HLA2.out with ⟨rfl, rfl⟩ | hlast
              · clear HLA2
                go_wp2_with fail
                go_roundg (m - (0 + 1))
                case measure => omega
                case rel => exact ⟨0 + 1, _, S1, by omega, by omega, hcn3, rfl, by simp, rfl, ⟨HTK.out.symm⟩, HLN, HB5⟩
              · clear HLA2
                by_cases hl0 : last.toList = []
                · go_wp2_with fail
                  go_roundg (m - (k + 1))
                  case measure => omega
                  case rel => exact ⟨k + 1, _, S1, by omega, by omega, hcn3, by rw [show (k : Int) + 1 = ((k + 1 : Nat) : Int) by omega], by simp, rfl, ⟨HTK.out.symm⟩, HLN, HB5⟩
                · have hl1 : last.toList.isEmpty = false := by simpa using hl0
                  go_wp2_with fail
                  go_roundg (m - (k + 1))
                  case measure => omega
                  case rel => exact ⟨k + 1, _, S1, by omega, by omega, hcn3, by rw [show (k : Int) + 1 = ((k + 1 : Nat) : Int) by omega], by simp, rfl, ⟨HTK.out.symm⟩, HLN, HB5⟩
      · obtain rfl : k = m := by omega
        have hcn1 := HCN.out
        have hct := HCT.out
        rw [List.take_of_length_le (by have := HM.out; omega)] at hct
        rw [← hct] at hcn1
        have hd1 : decide ((cn : Int) ≤ 1) = true := decide_eq_true (by omega)
        clear hct
        go_wp2_with fail
        go_ret
        exact ⟨rfl, HB2.out.trans (HB.out.mono HB2.out.size)⟩
  · clear hCa
    generalize a.length = n at *
    go_enter Try.func6, Try.ntmps6
    go_wp2_with fail
    refine HW.out.mono ?_
    rintro e w1 ⟨rfl, hb⟩
    go_wp2
    go_ret
    exact ⟨rfl, hb⟩
end Go.Proofs.Ytoihlfiacnljhaa.Pure
