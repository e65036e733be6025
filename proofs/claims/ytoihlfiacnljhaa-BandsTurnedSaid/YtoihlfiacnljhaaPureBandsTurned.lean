/- BandsTurned: turned twice sequences are as they were; a rune's bytes from behind are taken by what is turned just as they are from the front; no condition. -/
import Derived.Test.YtoihlfiacnljhaaHBandsTurnedx4
import Derived.Test.YtoihlfiacnljhaaXBandsRev
namespace Go.Proofs.Ytoihlfiacnljhaa.Pure
open Go.RowKit Go.Proofs.Ytoihlfiacnljhaa.HBandsTurned Go.Proofs.YtoihlfiacnljhaaW.PrintWords Go.Proofs.YtoihlfiacnljhaaW.PrintLast
open Go.Proofs.YtoihlfiacnljhaaX
set_option linter.unusedVariables false
set_option linter.unusedSimpArgs false
theorem wrap_to {x y : Int} (e : x = y) (h0 : -9223372036854775808 ≤ y) (h1 : y ≤ 9223372036854775807) : wrap64 x = y := by
  subst e
  exact wrap_in h0 h1
theorem split_f (a b : Int) : bands_Split.f a b = some ((splitL a b).map (List.map toRg)) := rfl
theorem back_rg (q : List (Int × Int)) : (q.map toRg).map (fun x => (x.f0, x.f1)) = q := by
  rw [List.map_map]
  exact List.map_id'' (fun x => rfl) q
theorem back_seqs (X : List (List (Int × Int))) : (X.map (List.map toRg)).map (List.map fun x => (x.f0, x.f1)) = X := by
  rw [List.map_map]
  exact List.map_id'' (fun q => back_rg q) X
theorem long_f (X : List (List (Int × Int))) (s : ByteArray) (h : X.length ≤ 1000000000) (hq : ∀ q ∈ X, q.length ≤ 1000000) : bands_Long.f (X.map (List.map toRg)) s = some (longF s X) := by
  unfold bands_Long.f
  rw [back_seqs, if_pos]
  refine ⟨by rw [List.length_map]; exact h, List.all_eq_true.2 fun q hq' => ?_⟩
  obtain ⟨p, hp, rfl⟩ := List.mem_map.1 hq'
  rw [List.length_map]
  exact decide_eq_true (hq p hp)
theorem of_l0 (m : List (Int × Int)) (hm : m.length ≤ 60) (d : Nat) : ∀ (i : Nat) (acc : List (List (Int × Int))), i + d = m.length → acc.length ≤ i * 5570560 →
    Ev (fun k => bands_Of.l0 k (acc.map (List.map toRg)) (m.map toRg) (m.length : Int) i) ((acc ++ (m.drop i).flatMap fun x => splitL x.1 x.2).map (List.map toRg)) := by
  induction d with
  | zero =>
    intro i acc hi ha
    refine Ev.step (fun k => ?_) (Ev.now _)
    simp only [bands_Of.l0]
    rw [if_neg (by omega), List.drop_of_length_le (by omega)]
    simp
  | succ d ih =>
    intro i acc hi ha
    have hlt : i < m.length := by omega
    have hsl := splitL_len m[i].1 m[i].2
    rw [List.drop_eq_getElem_cons hlt, List.flatMap_cons, ← List.append_assoc]
    have hstep : ∀ k, bands_Of.l0 (k + 1) (acc.map (List.map toRg)) (m.map toRg) (m.length : Int) i = bands_Of.l0 k ((acc ++ splitL m[i].1 m[i].2).map (List.map toRg)) (m.map toRg) (m.length : Int) ((i + 1 : Nat) : Int) := by
      intro k
      simp only [bands_Of.l0]
      rw [if_pos (by omega), if_pos (by omega), if_pos (by simp; omega), rd_rg m i hlt, split_f, Option.bind_some, List.length_map, List.length_map]
      rw [show (toRg m[i]).f0 = m[i].1 from rfl, show (toRg m[i]).f1 = m[i].2 from rfl, if_pos (by omega), ← List.map_append, wrap_to (x := (i : Int) + 1) (y := ((i + 1 : Nat) : Int)) (by omega) (by omega) (by omega)]
    exact Ev.step hstep (ih (i + 1) _ (by omega) (by rw [List.length_append]; omega))
theorem of_ev (l : List S41) (hl : l.length ≤ 60) : Ev (fun k => bands_Of.f k l) ((ofL (l.map ofRg)).map (List.map toRg)) := by
  unfold bands_Of.f
  refine Ev.bind (norm_ev l (by omega)) ?_
  have hn : (normL (l.map ofRg)).length ≤ 60 := by have := normL_len (l.map ofRg); rw [List.length_map] at this; omega
  have := of_l0 (normL (l.map ofRg)) hn (normL (l.map ofRg)).length 0 [] (by omega) (by simp)
  rw [List.length_map]
  exact this
theorem ofL_len (l : List S41) (hl : l.length ≤ 60) : (ofL (l.map ofRg)).length ≤ 1000000000 := by
  have hn := normL_len (l.map ofRg)
  rw [List.length_map] at hn
  have := of_len (normL (l.map ofRg))
  unfold ofL
  omega
theorem ofL_q (l : List (Int × Int)) : ∀ q ∈ ofL l, q.length ≤ 1000000 := fun q hq => by have := ofL_seq q hq; omega
theorem long_of (l : List S41) (hl : l.length ≤ 60) (s : ByteArray) : bands_Long.f ((ofL (l.map ofRg)).map (List.map toRg)) s = some (longF s (ofL (l.map ofRg))) := long_f _ s (ofL_len l hl) (ofL_q _)
theorem works_ev : Ev burinlaw05_works.f true := by
  unfold burinlaw05_works.f
  have e1 : bands_Split.f 128 2047 = some [[(⟨194, 223⟩ : S41), ⟨128, 191⟩]] := by rw [split_f, split_two]; rfl
  have e2 : bands_Split.f 0 1114111 = some ((splitL 0 1114111).map (List.map toRg)) := split_f _ _
  have e3 : ((splitL 0 1114111).map (List.map toRg)).length = 9 := by rw [List.length_map, split_all]
  refine Ev.bind (by rw [e1]; exact Ev.now _) ?_
  simp only [List.length_singleton, if_pos (show (((1 : Nat) : Int) = 1) by decide), if_pos (show (0 : Int) < ((1 : Nat) : Int) by decide)]
  refine Ev.bind (a := true) (Ev.of (fun k => burinbook_SameRanges.mono _ _ _) (k := 4) (by decide +kernel)) ?_
  simp only [if_true]
  refine Ev.bind (by rw [e2]; exact Ev.now _) ?_
  simp only [e3, if_pos (show (((9 : Nat) : Int) = 9) by decide)]
  refine Ev.congr (f := fun _ => some true) (fun k => ?_) (Ev.now _)
  have := long_f [[(194, 223), (128, 191)]] ⟨#[195, 169, 120]⟩ (by decide) (by decide)
  rw [show ([[(194, 223), (128, 191)]] : List (List (Int × Int))).map (List.map toRg) = [[(⟨194, 223⟩ : S41), ⟨128, 191⟩]] from rfl] at this
  rw [this]
  decide +kernel
theorem same_l0 (s : List S41) (hn : s.length ≤ 2000000) (d : Nat) : ∀ i : Nat, i ≤ s.length → s.length - i = d → Ev (fun k => burinbook_SameRanges.l0 k s s true i) true := by
  induction d with
  | zero =>
    intro i hi hd
    refine Ev.step (fun k => ?_) (Ev.now _)
    simp only [burinbook_SameRanges.l0]
    rw [if_pos trivial, if_neg (by omega)]
  | succ d ih =>
    intro i hi hd
    refine Ev.step (fun k => ?_) (ih (i + 1) (by omega) (by omega))
    simp only [burinbook_SameRanges.l0]
    rw [if_pos trivial, if_pos (by omega), if_pos (by omega), if_pos (by omega), wrap_rg (x := (i : Int) + 1) (by omega) (by omega), show (i : Int) + 1 = ((i + 1 : Nat) : Int) by omega]
    simp
theorem same_ev (s : List S41) (hn : s.length ≤ 2000000) : Ev (fun k => burinbook_SameRanges.f k s s) true := by
  have := same_l0 s hn _ 0 (Nat.zero_le _) rfl
  unfold burinbook_SameRanges.f
  simpa using this
theorem rd_seq (X : List (List S41)) (i : Nat) (h : i < X.length) : rd_L2 X (i : Int) = X[i] := by
  unfold rd_L2
  rw [Int.toNat_natCast, List.getD_eq_getElem?_getD, List.getElem?_eq_getElem h]
  rfl
theorem turn_l0 (X : List (List S41)) (hX : X.length ≤ 1000000000) (hq : ∀ q ∈ X, q.length ≤ 100000) (d : Nat) : ∀ (i : Nat) (acc : List (List S41)), i + d = X.length → acc.length = i → Ev (fun k => bands_Turn.l0 k acc X (X.length : Int) i) (acc ++ (X.drop i).map List.reverse) := by
  induction d with
  | zero =>
    intro i acc hi ha
    refine Ev.step (fun k => ?_) (Ev.now _)
    simp only [bands_Turn.l0]
    rw [if_neg (by omega), List.drop_of_length_le (by omega)]
    simp
  | succ d ih =>
    intro i acc hi ha
    have hlt : i < X.length := by omega
    have hqi := hq X[i] (List.getElem_mem hlt)
    have := ih (i + 1) (acc ++ [X[i].reverse]) (by omega) (by rw [List.length_append]; simp; omega)
    rw [List.drop_eq_getElem_cons hlt, List.map_cons, ← List.singleton_append, ← List.append_assoc]
    refine Ev.step (fun k => ?_) this
    simp only [bands_Turn.l0]
    rw [if_pos (by omega), if_pos (by omega), if_pos (by omega), rd_seq X i hlt, show ext_cloneRange.f X[i] = some X[i] by unfold ext_cloneRange.f; rw [if_pos hqi]]
    simp only [Option.bind_some]
    rw [show ext_reverseRange.f X[i] = some X[i].reverse by unfold ext_reverseRange.f; rw [if_pos (by omega)]]
    simp only [Option.bind_some]
    rw [if_pos (by omega), wrap_to (x := (i : Int) + 1) (y := ((i + 1 : Nat) : Int)) (by omega) (by omega) (by omega)]
theorem turn_ev (X : List (List S41)) (hX : X.length ≤ 1000000000) (hq : ∀ q ∈ X, q.length ≤ 100000) : Ev (fun k => bands_Turn.f k X) (X.map List.reverse) := by
  have := turn_l0 X hX hq X.length 0 [] (by omega) rfl
  rw [List.drop_zero, List.nil_append] at this
  exact this
theorem seqs_l0 (X : List (List S41)) (hX : X.length ≤ 1000000000) (hq : ∀ q ∈ X, q.length ≤ 100000) (d : Nat) : ∀ i : Nat, i + d = X.length → Ev (fun k => burinbook_SameSeqs.l0 k X X true i) true := by
  induction d with
  | zero =>
    intro i hi
    refine Ev.step (fun k => ?_) (Ev.now _)
    simp only [burinbook_SameSeqs.l0]
    rw [if_pos trivial, if_neg (by omega)]
  | succ d ih =>
    intro i hi
    have hlt : i < X.length := by omega
    have hqi := hq X[i] (List.getElem_mem hlt)
    refine Ev.step (f := fun k => (burinbook_SameRanges.f k X[i] X[i]).bind fun t => burinbook_SameSeqs.l0 k X X t ((i + 1 : Nat) : Int)) (fun k => ?_) (Ev.bind (same_ev X[i] (by omega)) (ih (i + 1) (by omega)))
    simp only [burinbook_SameSeqs.l0]
    rw [if_pos trivial, if_pos (by omega), if_pos (by omega), if_pos (by omega), rd_seq X i hlt, wrap_to (x := (i : Int) + 1) (y := ((i + 1 : Nat) : Int)) (by omega) (by omega) (by omega)]
theorem seqs_ev (X : List (List S41)) (hX : X.length ≤ 1000000000) (hq : ∀ q ∈ X, q.length ≤ 100000) : Ev (fun k => burinbook_SameSeqs.f k X X) true := by
  have := seqs_l0 X hX hq X.length 0 (by omega)
  unfold burinbook_SameSeqs.f
  simpa using this
theorem turned_len (l : List S41) (hl : l.length ≤ 60) : ((ofL (l.map ofRg)).map (List.map toRg)).length ≤ 1000000000 := by
  rw [List.length_map]
  exact ofL_len l hl
theorem turned_q (l : List S41) : ∀ q ∈ (ofL (l.map ofRg)).map (List.map toRg), q.length ≤ 100000 := by
  intro q hq
  obtain ⟨p, hp, rfl⟩ := List.mem_map.1 hq
  have := ofL_seq p hp
  rw [List.length_map]
  omega
theorem rev_map (X : List (List (Int × Int))) : (X.map (List.map toRg)).map List.reverse = (X.map List.reverse).map (List.map toRg) := by
  rw [List.map_map, List.map_map]
  exact List.map_congr_left fun q _ => by simp [List.map_reverse]
theorem back_l0 (l : List S41) (hl : l.length ≤ 20) (r : Int) (hr : widthF r ≠ 0) (d : Nat) : ∀ i : Nat, i + d = widthF r → Ev (fun k => burinlaw05_BandsTurned.l0 k ((ofL (l.map ofRg)).map (List.map toRg)) (strOfNums (encN (widthF r) r)) (strOfNums ((encN (widthF r) r).take i).reverse) (widthF r : Int) i) true := by
  have hri := width_in hr
  have hL := encN_len (widthF r) hri.1.1 r
  have hsz : (strOfNums (encN (widthF r) r)).size = widthF r := by rw [strOfNums_size, hL]
  induction d with
  | zero =>
    intro i hi
    refine Ev.step (fun k => by simp only [burinlaw05_BandsTurned.l0]; exact rfl) ?_
    simp only [if_neg (show ¬ (i : Int) < (widthF r : Int) by omega)]
    rw [List.take_of_length_le (by omega)]
    have hT := turn_ev _ (turned_len l (by omega)) (turned_q l)
    refine Ev.bind hT (Ev.bind (turn_ev _ (by rw [List.length_map]; exact turned_len l (by omega)) ?_) ?_)
    · intro q hq
      obtain ⟨p, hp, rfl⟩ := List.mem_map.1 hq
      rw [List.length_reverse]
      exact turned_q l p hp
    · rw [show (((ofL (l.map ofRg)).map (List.map toRg)).map List.reverse).map List.reverse = (ofL (l.map ofRg)).map (List.map toRg) by rw [List.map_map]; exact List.map_id'' (fun q => List.reverse_reverse q) _]
      refine Ev.bind (seqs_ev _ (turned_len l (by omega)) (turned_q l)) ?_
      simp only [if_true]
      refine Ev.bind hT ?_
      rw [rev_map, long_f _ _ (by rw [List.length_map]; exact ofL_len l (by omega)) (by
        intro q hq
        obtain ⟨p, hp, rfl⟩ := List.mem_map.1 hq
        rw [List.length_reverse]
        exact ofL_q _ p hp), long_of l (by omega)]
      simp only [Option.bind_some]
      obtain ⟨P, eP, hP⟩ := of_pieces (normL (l.map ofRg)) (normL_nrm _)
      rw [show ofL (l.map ofRg) = P.map seq3 from eP, long_rev hr (fun p hp => (hP.all p hp).1)]
      simp only [beq_self_eq_true]
      exact Ev.now _
  | succ d ih =>
    intro i hi
    have hlt : i < (encN (widthF r) r).length := by omega
    refine Ev.step (fun k => ?_) (ih (i + 1) (by omega))
    simp only [burinlaw05_BandsTurned.l0]
    rw [if_pos (by omega), if_pos (by omega), wrap_to (x := (i : Int) + 1) (y := ((i + 1 : Nat) : Int)) (by omega) (by omega) (by omega), if_pos (by omega), if_pos (by rw [hsz]; omega), Int.toNat_natCast, Int.toNat_natCast, nums_cut _ i hlt, ← str_append, if_pos (by rw [strOfNums_size, strOfNums_size, List.length_reverse, List.length_take]; simp; omega)]
    rw [List.take_succ_eq_append_getElem hlt, List.reverse_append, List.reverse_singleton]
theorem BandsTurned (l : List S41) (r : Int) : ∃ k, burinlaw05_BandsTurned.f k l r = some true := by
  refine Ev.rounds (Ev.bind works_ev ?_)
  simp only [if_true]
  by_cases hl : (l.length : Int) > 20
  · simp only [if_pos hl]
    exact Ev.now _
  · simp only [if_neg hl]
    refine Ev.bind (of_ev l (by omega)) ?_
    by_cases hw : widthF r = 0
    · have e : utf_Encode.f r = some ((⟨#[]⟩ : ByteArray), 1) := by unfold utf_Encode.f; rw [if_pos hw]
      rw [e]
      simp only [Option.bind_some]
      exact Ev.congr (fun k => if_neg (by decide)) (Ev.now _)
    · have e : utf_Encode.f r = some (strOfNums (encN (widthF r) r), 0) := by unfold utf_Encode.f; rw [if_neg hw]
      have hri := width_in hw
      rw [e]
      simp only [Option.bind_some, if_true]
      have := back_l0 l (by omega) r hw (widthF r) 0 (by omega)
      rw [strOfNums_size, encN_len _ hri.1.1]
      exact this
end Go.Proofs.Ytoihlfiacnljhaa.Pure
