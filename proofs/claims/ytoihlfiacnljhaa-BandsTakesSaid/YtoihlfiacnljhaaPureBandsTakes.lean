/- BandsTakes: Long and Turn by the reference; the argument is kept; no condition. -/
import Derived.Test.YtoihlfiacnljhaaHBandsTakesx2
import Derived.Test.YtoihlfiacnljhaaHBandsTakesx3
import Derived.Test.YtoihlfiacnljhaaXUtfDec
import Derived.Test.YtoihlfiacnljhaaXRangesSpoil
import Derived.Test.YtoihlfiacnljhaaXBandsOf
import Derived.Test.YtoihlfiacnljhaaXBandsIso
namespace Go.Proofs.Ytoihlfiacnljhaa.Pure
open Go.RowKit Go.Proofs.Ytoihlfiacnljhaa.HBandsTakes Go.Proofs.YtoihlfiacnljhaaW.PrintWords Go.Proofs.YtoihlfiacnljhaaW.PrintLast
open Go.Proofs.YtoihlfiacnljhaaX
set_option linter.unusedVariables false
set_option linter.unusedSimpArgs false
theorem wrap_to {x y : Int} (e : x = y) (h0 : -9223372036854775808 ≤ y) (h1 : y ≤ 9223372036854775807) : wrap64 x = y := by
  subst e
  exact wrap_in h0 h1
theorem wrap_rg {x : Int} (h0 : -9223372036854775808 ≤ x) (h1 : x ≤ 9223372036854775807) : wrap64 x = x := wrap_in h0 h1
def ofRg (x : S41) : Int × Int := (x.f0, x.f1)
def toRg (x : Int × Int) : S41 := ⟨x.1, x.2⟩
theorem same_l0 (s : List S41) (hn : s.length ≤ 2000000) (d : Nat) : ∀ i : Nat, i ≤ s.length → s.length - i = d → Ev (fun k => burinbook_SameRanges.l0 k s s true i) true := by
  induction d with
  | zero =>
    intro i hi hd
    refine Ev.step (fun k => ?_) (Ev.now _)
    simp only [burinbook_SameRanges.l0]
    rw [if_pos trivial, if_neg (by omega)]
  | succ d ih =>
    intro i hi hd
    refine Ev.step (fun k => ?_) (ih (i + 1) (by omega) (by omega))
    simp only [burinbook_SameRanges.l0]
    rw [if_pos trivial, if_pos (by omega), if_pos (by omega), if_pos (by omega), wrap_rg (x := (i : Int) + 1) (by omega) (by omega), show (i : Int) + 1 = ((i + 1 : Nat) : Int) by omega]
    simp
theorem same_ev (s : List S41) (hn : s.length ≤ 2000000) : Ev (fun k => burinbook_SameRanges.f k s s) true := by
  have := same_l0 s hn _ 0 (Nat.zero_le _) rfl
  unfold burinbook_SameRanges.f
  simpa using this
theorem rd_seq (X : List (List S41)) (i : Nat) (h : i < X.length) : rd_L2 X (i : Int) = X[i] := by
  unfold rd_L2
  rw [Int.toNat_natCast, List.getD_eq_getElem?_getD, List.getElem?_eq_getElem h]
  rfl
theorem turn_l0 (X : List (List S41)) (hX : X.length ≤ 1000000000) (hq : ∀ q ∈ X, q.length ≤ 100000) (d : Nat) : ∀ (i : Nat) (acc : List (List S41)), i + d = X.length → acc.length = i → Ev (fun k => bands_Turn.l0 k acc X (X.length : Int) i) (acc ++ (X.drop i).map List.reverse) := by
  induction d with
  | zero =>
    intro i acc hi ha
    refine Ev.step (fun k => ?_) (Ev.now _)
    simp only [bands_Turn.l0]
    rw [if_neg (by omega), List.drop_of_length_le (by omega)]
    simp
  | succ d ih =>
    intro i acc hi ha
    have hlt : i < X.length := by omega
    have hqi := hq X[i] (List.getElem_mem hlt)
    have := ih (i + 1) (acc ++ [X[i].reverse]) (by omega) (by rw [List.length_append]; simp; omega)
    rw [List.drop_eq_getElem_cons hlt, List.map_cons, ← List.singleton_append, ← List.append_assoc]
    refine Ev.step (fun k => ?_) this
    simp only [bands_Turn.l0]
    rw [if_pos (by omega), if_pos (by omega), if_pos (by omega), rd_seq X i hlt, show ext_cloneRange.f X[i] = some X[i] by unfold ext_cloneRange.f; rw [if_pos hqi]]
    simp only [Option.bind_some]
    rw [show ext_reverseRange.f X[i] = some X[i].reverse by unfold ext_reverseRange.f; rw [if_pos (by omega)]]
    simp only [Option.bind_some]
    rw [if_pos (by omega), wrap_to (x := (i : Int) + 1) (y := ((i + 1 : Nat) : Int)) (by omega) (by omega) (by omega)]
theorem turn_ev (X : List (List S41)) (hX : X.length ≤ 1000000000) (hq : ∀ q ∈ X, q.length ≤ 100000) : Ev (fun k => bands_Turn.f k X) (X.map List.reverse) := by
  have := turn_l0 X hX hq X.length 0 [] (by omega) rfl
  rw [List.drop_zero, List.nil_append] at this
  exact this
theorem seqs_l0 (X : List (List S41)) (hX : X.length ≤ 1000000000) (hq : ∀ q ∈ X, q.length ≤ 100000) (d : Nat) : ∀ i : Nat, i + d = X.length → Ev (fun k => burinbook_SameSeqs.l0 k X X true i) true := by
  induction d with
  | zero =>
    intro i hi
    refine Ev.step (fun k => ?_) (Ev.now _)
    simp only [burinbook_SameSeqs.l0]
    rw [if_pos trivial, if_neg (by omega)]
  | succ d ih =>
    intro i hi
    have hlt : i < X.length := by omega
    have hqi := hq X[i] (List.getElem_mem hlt)
    refine Ev.step (f := fun k => (burinbook_SameRanges.f k X[i] X[i]).bind fun t => burinbook_SameSeqs.l0 k X X t ((i + 1 : Nat) : Int)) (fun k => ?_) (Ev.bind (same_ev X[i] (by omega)) (ih (i + 1) (by omega)))
    simp only [burinbook_SameSeqs.l0]
    rw [if_pos trivial, if_pos (by omega), if_pos (by omega), if_pos (by omega), rd_seq X i hlt, wrap_to (x := (i : Int) + 1) (y := ((i + 1 : Nat) : Int)) (by omega) (by omega) (by omega)]
theorem seqs_ev (X : List (List S41)) (hX : X.length ≤ 1000000000) (hq : ∀ q ∈ X, q.length ≤ 100000) : Ev (fun k => burinbook_SameSeqs.f k X X) true := by
  have := seqs_l0 X hX hq X.length 0 (by omega)
  unfold burinbook_SameSeqs.f
  simpa using this
theorem rturn_l1 (X : List (List S41)) (hX : X.length ≤ 1000000000) (acc : List (List S41)) (hacc : acc.length ≤ 1000000000) (i : Nat) (hi : i < X.length) (hq : X[i].length ≤ 100000) {r : List (List S41)}
    (h : Ev (fun k => burinref05_Turn.l0 k X (acc ++ [X[i].reverse]) ((i + 1 : Nat) : Int)) r) : ∀ (j : Nat) (own : List S41), j ≤ X[i].length → own = (X[i].drop j).reverse → Ev (fun k => burinref05_Turn.l1 k X acc i own ((j : Int) - 1)) r
  | 0, own, hj, ho => by
    refine Ev.step (fun k => ?_) h
    simp only [burinref05_Turn.l1]
    rw [if_neg (by omega), if_pos (by omega), ho, List.drop_zero, wrap_to (x := (i : Int) + 1) (y := ((i + 1 : Nat) : Int)) (by omega) (by omega) (by omega)]
  | j + 1, own, hj, ho => by
    have ih := rturn_l1 X hX acc hacc i hi hq h j (own ++ [X[i][j]]) (by omega) (by rw [ho, List.drop_eq_getElem_cons (show j < X[i].length by omega), List.reverse_cons])
    refine Ev.step (fun k => ?_) ih
    simp only [burinref05_Turn.l1]
    have hol : own.length ≤ 100000 := by rw [ho, List.length_reverse, List.length_drop]; omega
    rw [if_pos (by omega), if_pos (by omega), if_pos (by omega), if_pos (by omega), rd_seq X i hi, if_pos (by omega), if_pos (by omega)]
    rw [show ((j + 1 : Nat) : Int) - 1 = (j : Int) by omega, show rd_T41 X[i] (j : Int) = X[i][j] by simp [rd_T41, show j < X[i].length by omega], wrap_to (x := (j : Int) - 1) (y := (j : Int) - 1) rfl (by omega) (by omega)]
theorem rturn_l0 (X : List (List S41)) (hX : X.length ≤ 1000000000) (hq : ∀ q ∈ X, q.length ≤ 100000) (d : Nat) : ∀ (i : Nat) (acc : List (List S41)), i + d = X.length → acc.length = i → Ev (fun k => burinref05_Turn.l0 k X acc i) (acc ++ (X.drop i).map List.reverse) := by
  induction d with
  | zero =>
    intro i acc hi ha
    refine Ev.step (fun k => ?_) (Ev.now _)
    simp only [burinref05_Turn.l0]
    rw [if_neg (by omega), List.drop_of_length_le (by omega)]
    simp
  | succ d ih =>
    intro i acc hi ha
    have hlt : i < X.length := by omega
    have hqi := hq X[i] (List.getElem_mem hlt)
    have h1 := ih (i + 1) (acc ++ [X[i].reverse]) (by omega) (by rw [List.length_append]; simp; omega)
    have h2 := rturn_l1 X hX acc (by omega) i hlt hqi h1 X[i].length [] (Nat.le_refl _) (by rw [List.drop_of_length_le (Nat.le_refl _)]; rfl)
    rw [List.drop_eq_getElem_cons hlt, List.map_cons, ← List.singleton_append, ← List.append_assoc]
    refine Ev.step (fun k => ?_) h2
    simp only [burinref05_Turn.l0]
    rw [if_pos (by omega), if_pos (by omega), rd_seq X i hlt, wrap_to (x := (X[i].length : Int) - 1) (y := (X[i].length : Int) - 1) rfl (by omega) (by omega)]
theorem rturn_ev (X : List (List S41)) (hX : X.length ≤ 1000000000) (hq : ∀ q ∈ X, q.length ≤ 100000) : Ev (fun k => burinref05_Turn.f k X) (X.map List.reverse) := by
  have := rturn_l0 X hX hq X.length 0 [] (by omega) rfl
  rw [List.drop_zero, List.nil_append] at this
  exact this
abbrev pairs (q : List S41) : List (Int × Int) := q.map fun x => (x.f0, x.f1)
theorem rlong_no (X : List (List S41)) (hX : X.length ≤ 1000000000) (s : ByteArray) (i : Nat) (hi : i < X.length) (n : Int) (j : Int) {r : Int} (h : Ev (fun k => burinref05_Long.l0 k X s ((i + 1 : Nat) : Int)) r) : Ev (fun k => burinref05_Long.l1 k X s i n false j) r := by
  refine Ev.step (fun k => ?_) h
  simp only [burinref05_Long.l1]
  have e : wrap64 ((i : Int) + 1) = ((i + 1 : Nat) : Int) := wrap_to (by omega) (by omega) (by omega)
  by_cases c : j < n
  · rw [if_pos c, if_neg (by decide), e]
  · rw [if_neg c, if_neg (by decide), e]
theorem rlong_l1 (X : List (List S41)) (hX : X.length ≤ 1000000000) (s : ByteArray) (i : Nat) (hi : i < X.length) (hq : X[i].length ≤ 100000) (hs : X[i].length ≤ s.size) {r : Int} (h : Ev (fun k => burinref05_Long.l0 k X s ((i + 1 : Nat) : Int)) r) (d : Nat) :
    ∀ (j : Nat) (b : Bool), j + d = X[i].length → Ev (fun k => burinref05_Long.l1 k X s i (X[i].length : Int) b j) (if b && okFrom s j ((pairs X[i]).drop j) then (X[i].length : Int) else r) := by
  induction d with
  | zero =>
    intro j b hj
    cases b with
    | false => exact rlong_no X hX s i hi _ _ h
    | true =>
      refine Ev.step (f := fun _ => some (X[i].length : Int)) (fun k => ?_) ?_
      · simp only [burinref05_Long.l1]
        rw [if_neg (by omega), if_pos trivial]
      · rw [List.drop_of_length_le (by rw [List.length_map]; omega)]
        exact Ev.now _
  | succ d ih =>
    intro j b hj
    cases b with
    | false => exact rlong_no X hX s i hi _ _ h
    | true =>
      have hlt : j < X[i].length := by omega
      have hlp : j < (pairs X[i]).length := by rw [List.length_map]; exact hlt
      have hb := byteI_in s j
      have e : wrap64 ((j : Int) + 1) = ((j + 1 : Nat) : Int) := wrap_to (by omega) (by omega) (by omega)
      have hrd : rd_T41 X[i] (j : Int) = X[i][j] := by simp [rd_T41, hlt]
      rw [List.drop_eq_getElem_cons hlp, okFrom]
      have hg : (pairs X[i])[j] = (X[i][j].f0, X[i][j].f1) := by simp [pairs]
      rw [hg, Bool.true_and]
      have hstep : ∀ k, burinref05_Long.l1 (k + 1) X s i (X[i].length : Int) true j = if X[i][j].f0 ≤ byteI s j then burinref05_Long.l1 k X s i (X[i].length : Int) (decide (byteI s j ≤ X[i][j].f1)) ((j + 1 : Nat) : Int) else burinref05_Long.l1 k X s i (X[i].length : Int) false ((j + 1 : Nat) : Int) := by
        intro k
        simp only [burinref05_Long.l1]
        rw [if_pos (by omega), if_pos trivial, if_pos (by omega), if_pos (by omega), if_pos (by omega), rd_seq X i hi, if_pos (by omega), if_pos (by omega), hrd, bt_byteI, wrap_in (x := byteI s j) (by omega) (by omega), e]
      by_cases c1 : X[i][j].f0 ≤ byteI s j
      · rw [decide_eq_true c1, Bool.true_and]
        exact Ev.step (fun k => by rw [hstep k, if_pos c1]) (ih (j + 1) _ (by omega))
      · rw [decide_eq_false c1, Bool.false_and]
        have := ih (j + 1) false (by omega)
        exact Ev.step (fun k => by rw [hstep k, if_neg c1]) this
theorem rlong_l0 (X : List (List S41)) (hX : X.length ≤ 1000000000) (hq : ∀ q ∈ X, q.length ≤ 100000) (s : ByteArray) (d : Nat) : ∀ i : Nat, i + d = X.length → Ev (fun k => burinref05_Long.l0 k X s i) (longF s ((X.drop i).map pairs)) := by
  induction d with
  | zero =>
    intro i hi
    refine Ev.step (f := fun _ => some 0) (fun k => ?_) ?_
    · simp only [burinref05_Long.l0]
      rw [if_neg (by omega)]
    · rw [List.drop_of_length_le (by omega)]
      exact Ev.now _
  | succ d ih =>
    intro i hi
    have hlt : i < X.length := by omega
    have hqi := hq X[i] (List.getElem_mem hlt)
    have h := ih (i + 1) (by omega)
    rw [List.drop_eq_getElem_cons hlt, List.map_cons, longF]
    by_cases c1 : X[i].length > 0
    · by_cases c2 : X[i].length ≤ s.size
      · have := rlong_l1 X hX s i hlt hqi c2 h X[i].length 0 true (by omega)
        have e : takesF s (pairs X[i]) = (true && okFrom s 0 ((pairs X[i]).drop 0)) := by
          unfold takesF
          rw [List.length_map, decide_eq_true c1, decide_eq_true c2]
          simp
        rw [e, List.length_map]
        refine Ev.step (f := fun k => burinref05_Long.j1 k X s i (X[i].length : Int) true) (fun k => ?_) (Ev.step (fun k => by simp only [burinref05_Long.j1]; exact rfl) this)
        simp only [burinref05_Long.l0]
        rw [if_pos (by omega), if_pos (by omega), rd_seq X i hlt, if_pos (by omega), decide_eq_true (by omega)]
      · have e : takesF s (pairs X[i]) = false := by
          unfold takesF
          rw [List.length_map, decide_eq_false c2]
          simp
        rw [e, if_neg (by decide)]
        refine Ev.step (f := fun k => burinref05_Long.j1 k X s i (X[i].length : Int) false) (fun k => ?_) (Ev.step (fun k => by simp only [burinref05_Long.j1]; exact rfl) (rlong_no X hX s i hlt _ 0 h))
        simp only [burinref05_Long.l0]
        rw [if_pos (by omega), if_pos (by omega), rd_seq X i hlt, if_pos (by omega), decide_eq_false (by omega)]
    · have e : takesF s (pairs X[i]) = false := by
        unfold takesF
        rw [List.length_map, decide_eq_false c1]
        simp
      rw [e, if_neg (by decide)]
      refine Ev.step (f := fun k => burinref05_Long.j1 k X s i (X[i].length : Int) false) (fun k => ?_) (Ev.step (fun k => by simp only [burinref05_Long.j1]; exact rfl) (rlong_no X hX s i hlt _ 0 h))
      simp only [burinref05_Long.l0]
      rw [if_pos (by omega), if_pos (by omega), rd_seq X i hlt, if_neg (by omega)]
theorem rlong_ev (X : List (List S41)) (hX : X.length ≤ 1000000000) (hq : ∀ q ∈ X, q.length ≤ 100000) (s : ByteArray) : Ev (fun k => burinref05_Long.f k X s) (longF s (X.map pairs)) := by
  have := rlong_l0 X hX hq s X.length 0 (by omega)
  rw [List.drop_zero] at this
  exact this
theorem great_l0 (X : List (List S41)) (hX : X.length ≤ 9223372036854775807) (d : Nat) : ∀ i : Nat, i + d = X.length → ∃ b, Ev (fun k => burinlaw05_great.l0 k X i) b ∧ (b = false → X.length ≤ 60 ∧ ∀ q ∈ X.drop i, q.length ≤ 50) := by
  induction d with
  | zero =>
    intro i hi
    refine ⟨decide ((X.length : Int) > 60), Ev.step (f := fun _ => some (decide ((X.length : Int) > 60))) (fun k => ?_) (Ev.now _), fun h => ⟨by have := of_decide_eq_false h; omega, ?_⟩⟩
    · simp only [burinlaw05_great.l0]
      rw [if_neg (by omega)]
    · rw [List.drop_of_length_le (by omega)]
      intro q hq
      cases hq
  | succ d ih =>
    intro i hi
    have hlt : i < X.length := by omega
    obtain ⟨b, h1, h2⟩ := ih (i + 1) (by omega)
    by_cases c : (X[i].length : Int) > 50
    · refine ⟨true, Ev.step (f := fun _ => some true) (fun k => ?_) (Ev.now _), fun h => by cases h⟩
      simp only [burinlaw05_great.l0]
      rw [if_pos (by omega), if_pos (by omega), rd_seq X i hlt, if_pos c]
    · refine ⟨b, Ev.step (fun k => ?_) h1, fun h => ⟨(h2 h).1, ?_⟩⟩
      · simp only [burinlaw05_great.l0]
        rw [if_pos (by omega), if_pos (by omega), rd_seq X i hlt, if_neg c, wrap_to (x := (i : Int) + 1) (y := ((i + 1 : Nat) : Int)) (by omega) (by omega) (by omega)]
      · rw [List.drop_eq_getElem_cons hlt]
        intro q hq
        rcases List.mem_cons.1 hq with rfl | hq
        · omega
        · exact (h2 h).2 q hq
theorem great_ev (X : List (List S41)) (hX : X.length ≤ 9223372036854775807) : ∃ b, Ev (fun k => burinlaw05_great.f k X) b ∧ (b = false → X.length ≤ 60 ∧ ∀ q ∈ X, q.length ≤ 50) := by
  have := great_l0 X hX X.length 0 (by omega)
  rw [List.drop_zero] at this
  exact this
theorem works_ev : Ev burinlaw05_works.f true := by
  have split_f : ∀ a b, bands_Split.f a b = some ((splitL a b).map (List.map toRg)) := fun _ _ => rfl
  unfold burinlaw05_works.f
  have e1 : bands_Split.f 128 2047 = some [[(⟨194, 223⟩ : S41), ⟨128, 191⟩]] := by rw [split_f, split_two]; rfl
  have e2 : bands_Split.f 0 1114111 = some ((splitL 0 1114111).map (List.map toRg)) := split_f _ _
  have e3 : ((splitL 0 1114111).map (List.map toRg)).length = 9 := by rw [List.length_map, split_all]
  refine Ev.bind (by rw [e1]; exact Ev.now _) ?_
  simp only [List.length_singleton, if_pos (show (((1 : Nat) : Int) = 1) by decide), if_pos (show (0 : Int) < ((1 : Nat) : Int) by decide)]
  refine Ev.bind (a := true) (Ev.of (fun k => burinbook_SameRanges.mono _ _ _) (k := 4) (by decide +kernel)) ?_
  simp only [if_true]
  refine Ev.bind (by rw [e2]; exact Ev.now _) ?_
  simp only [e3, if_pos (show (((9 : Nat) : Int) = 9) by decide)]
  refine Ev.congr (f := fun _ => some true) (fun k => ?_) (Ev.now _)
  decide +kernel
abbrev kX := Kd.slice 41 k41
theorem works_at {w : World} : Calls Try.prog 9 #[] w (fun e w' => e = .returned (.bool true) ∧ Below w.heap.size w w') := by
  obtain ⟨k, hk⟩ := Ev.rounds works_ev
  exact burinlaw05_works.calls k true w hk
theorem turn_at {A : Option Addr} {c : Nat} {X : List (List S41)} {w : World} (hX : X.length ≤ 60) (hq : ∀ q ∈ X, q.length ≤ 50) (h : Kd.C kX w A X.length X) (hc : X.length ≤ c) :
    Calls Try.prog 10 #[.slice A X.length c] w (fun e w' => ∃ v : Value, e = .returned v ∧ Kd.S kX 29 w' w.heap.size (fun _ => True) v (X.map List.reverse) ∧ Below w.heap.size w w') := by
  obtain ⟨k, hk⟩ := Ev.rounds (turn_ev X (by omega) (fun q h => by have := hq q h; omega))
  exact bands_Turn.calls k A c X _ w h hc hk
theorem rturn_at {A : Option Addr} {c : Nat} {X : List (List S41)} {w : World} (hX : X.length ≤ 60) (hq : ∀ q ∈ X, q.length ≤ 50) (h : Kd.C kX w A X.length X) (hc : X.length ≤ c) :
    Calls Try.prog 12 #[.slice A X.length c] w (fun e w' => ∃ v : Value, e = .returned v ∧ Kd.S kX 29 w' w.heap.size (fun _ => True) v (X.map List.reverse) ∧ Below w.heap.size w w') := by
  obtain ⟨k, hk⟩ := Ev.rounds (rturn_ev X (by omega) (fun q h => by have := hq q h; omega))
  exact burinref05_Turn.calls k A c X _ w h hc hk
theorem sames_at {A A' : Option Addr} {c c' : Nat} {Y : List (List S41)} {w : World} (hX : Y.length ≤ 60) (hq : ∀ q ∈ Y, q.length ≤ 50) (h : Kd.C kX w A Y.length Y) (hc : Y.length ≤ c) (h' : Kd.C kX w A' Y.length Y) (hc' : Y.length ≤ c') :
    Calls Try.prog 11 #[.slice A Y.length c, .slice A' Y.length c'] w (fun e w' => e = .returned (.bool true) ∧ Below w.heap.size w w') := by
  obtain ⟨k, hk⟩ := Ev.rounds (seqs_ev Y (by omega) (fun q h => by have := hq q h; omega))
  exact (burinbook_SameSeqs.calls k A c Y A' c' Y true w h hc h' hc' hk).mono fun e w' ⟨he, hd⟩ => ⟨he, hd.below⟩
theorem long_at {A : Option Addr} {c : Nat} {X : List (List S41)} (s : ByteArray) {w : World} (hX : X.length ≤ 60) (hq : ∀ q ∈ X, q.length ≤ 50) (h : Kd.C kX w A X.length X) (hc : X.length ≤ c) :
    Calls Try.prog 13 #[.slice A X.length c, .string s] w (fun e w' => e = .returned (.int .i64 (longF s (X.map pairs))) ∧ Below w.heap.size w w') := by
  refine bands_Long.calls A c X s _ w h hc ?_
  unfold bands_Long.f
  rw [if_pos ⟨by omega, List.all_eq_true.2 fun q h => decide_eq_true (by have := hq q h; omega)⟩]
theorem rlong_at {A : Option Addr} {c : Nat} {X : List (List S41)} (s : ByteArray) {w : World} (hX : X.length ≤ 60) (hq : ∀ q ∈ X, q.length ≤ 50) (h : Kd.C kX w A X.length X) (hc : X.length ≤ c) :
    Calls Try.prog 14 #[.slice A X.length c, .string s] w (fun e w' => e = .returned (.int .i64 (longF s (X.map pairs))) ∧ Below w.heap.size w w') := by
  obtain ⟨k, hk⟩ := Ev.rounds (rlong_ev X (by omega) (fun q h => by have := hq q h; omega) s)
  exact (burinref05_Long.calls k A c X s _ w h hc hk).mono fun e w' ⟨he, hd⟩ => ⟨he, hd.below⟩
theorem spoil_at {w : World} {base : Nat} {ok : Nat → Prop} {u : Value} {q : List S41} (h : Kd.R k41 41 w base ok u q) :
    Calls Try.prog 15 #[u] w (fun e w' => e = .returned (.tuple #[]) ∧ Below base w w' ∧ ∀ k, some k ≠ u.ownBlock → w'.heap[k]? = w.heap[k]?) :=
  spoil_but _ w base ok u ((R_iso (d := kRg) (f := fun x : S41 => (x.f0, x.f1))).1 h)
/-- A list in a row of lists that lie apart. -/
theorem seq_at {α : Type} {d : Kd α} {T e : Nat} {f : Nat → Nat} {w : World} {base : Nat} {ok : Nat → Prop} {v : Value} {xs : List (List α)} (h : (Kd.tag f (Kd.slice T d)).R e w base ok v xs.zipIdx) (i : Nat) (hi : i < xs.length) :
    ∃ (g cap : Nat) (u : Value), v = .slice (some ⟨g, 0, none⟩) xs.length cap ∧ (∃ cells : Array Value, w.heap[g]? = some (.cells cells e (0, 0)) ∧ cells[i]? = some u) ∧ d.R T w base (fun k => (ok k ∧ some k ≠ v.ownBlock) ∧ f k = i) u xs[i] := by
  obtain ⟨h0, inner, ⟨hlen, ho⟩, hr⟩ := h
  rw [List.length_zipIdx] at hlen ho
  rcases ho with ⟨rfl, hn⟩ | ⟨g, cap, cur, rfl, hg, hh, hle, hmax, hsz, htk⟩
  · omega
  · have hx : xs.zipIdx[i]? = some (xs[i], i) := by rw [List.getElem?_zipIdx, List.getElem?_eq_getElem hi]; simp
    obtain ⟨u, hu, hM⟩ := hr.2 i _ hx
    refine ⟨g, cap, u, rfl, ⟨cur, hh, ?_⟩, hM⟩
    have h1 : inner[i]? = some u := by
      have hd : (inner.drop (i * 1)).take 1 = [u] := hu
      rw [Nat.mul_one] at hd
      have := congrArg (fun l => l[0]?) hd
      simp only [List.getElem?_take, List.getElem?_drop] at this
      simpa using this
    rw [← htk, List.getElem?_take] at h1
    split at h1
    · rwa [Array.getElem?_toList] at h1
    · cases h1
set_option maxHeartbeats 2000000 in
theorem BandsTakes_walk (A0 : Option Addr) (c0 : Nat) (z : List (List (Int × Int))) (s : ByteArray) (w : World) (hC0 : Kd.C kSeqs w A0 z.length z) (hc0 : z.length ≤ c0) (hs : s.size ≤ 140737488351232) :
    Calls Try.prog 3 #[.slice A0 z.length c0, .string s] w (fun e w' => e = .returned (.bool true) ∧ Below w.heap.size w w') := by
  obtain ⟨X, hX⟩ : ∃ X : List (List S41), X = z.map (List.map toRg) := ⟨_, rfl⟩
  have hz : X.map (List.map fun x => (x.f0, x.f1)) = z := by
    rw [hX, List.map_map]
    exact List.map_id'' (fun q => by show (q.map toRg).map _ = q; rw [List.map_map]; exact List.map_id'' (fun x => rfl) q) z
  have hl : X.length = z.length := by rw [hX, List.length_map]
  have hC : Kd.C kX w A0 X.length X := by
    refine (C_via (d := kX) (d' := kSeqs) (g := List.map fun x : S41 => (x.f0, x.f1)) rfl (fun w x cs => slice_K)).2 ?_
    rw [hz, hl]
    exact hC0
  have hc : X.length ≤ c0 := by omega
  rw [← hl]
  clear hC0 hc0 hz hX hl z
  obtain ⟨b, hb, hg⟩ := great_ev X hC.2.1
  obtain ⟨k, hk⟩ := Ev.rounds hb
  have HG := Aside0.mk (burinlaw05_great.calls k A0 c0 X b w hC hc hk)
  have HW := Aside0.mk (fun w => works_at (w := w))
  clear hb hk k
  have HC := Aside0.mk hC
  clear hC
  have HX := Aside0.mk hg
  clear hg
  cases b with
  | true =>
    generalize X.length = n at *
    go_enter Try.func3, Try.ntmps3
    go_wp2_with fail
    refine HG.out.mono ?_
    rintro e w1 ⟨rfl, hd⟩
    have HB := Aside0.mk hd.below
    clear hd HG
    go_wp2_with fail
    refine (HW.out w1).mono ?_
    rintro e w2 ⟨rfl, hb⟩
    have HB2 := Aside0.mk (HB.out.trans (hb.mono HB.out.size))
    clear hb HB
    go_wp2
    go_ret
    exact ⟨rfl, HB2.out⟩
  | false =>
    have hx := HX.out rfl
    have HT := Aside0.mk (fun (w : World) (h : Kd.C kX w A0 X.length X) => turn_at hx.1 hx.2 h hc)
    have HRT := Aside0.mk (fun (w : World) (h : Kd.C kX w A0 X.length X) => rturn_at hx.1 hx.2 h hc)
    have HLO := Aside0.mk (fun (w : World) (h : Kd.C kX w A0 X.length X) => long_at s hx.1 hx.2 h hc)
    have HRL := Aside0.mk (fun (w : World) (h : Kd.C kX w A0 X.length X) => rlong_at s hx.1 hx.2 h hc)
    have hY : (X.map List.reverse).length = X.length := List.length_map ..
    have HS := Aside0.mk (fun (w : World) (A A' : Option Addr) (c c' : Nat) (h : Kd.C kX w A (X.map List.reverse).length (X.map List.reverse)) (hc : (X.map List.reverse).length ≤ c) (h' : Kd.C kX w A' (X.map List.reverse).length (X.map List.reverse)) (hc' : (X.map List.reverse).length ≤ c') => sames_at (by omega) (fun q hq => by
      obtain ⟨p, hp, rfl⟩ := List.mem_map.1 hq
      rw [List.length_reverse]
      exact hx.2 p hp) h hc h' hc')
    clear hx HX
    generalize X.map List.reverse = Y at HT HRT HS hY
    generalize longF s (X.map pairs) = L at HLO HRL
    generalize Value.string s = vs at HLO HRL ⊢
    obtain ⟨n, hn⟩ : ∃ n, X.length = n := ⟨_, rfl⟩
    rw [hn] at HG HC HT HRT HLO HRL hc hY ⊢
    have HC0 := Aside0.mk HC.out
    have HX0 := Aside0.mk HC.out.2.1
    obtain ⟨m, hm⟩ : ∃ m, Y.length = m := ⟨_, rfl⟩
    have HM := Aside0.mk hm
    rw [hm] at HS hY
    clear hn hm
    obtain rfl : n = m := hY.symm
    go_enter Try.func3, Try.ntmps3
    go_wp2_with fail
    refine HG.out.mono ?_
    rintro e w1 ⟨rfl, hd⟩
    have HB := Aside0.mk hd.below
    clear hd HG
    go_wp2_with fail
    refine (HT.out w1 (Kd.C_below HC.out HB.out)).mono ?_
    rintro e w2 ⟨v2, rfl, hS2, hb2⟩
    obtain ⟨A2, c2, rfl⟩ := Kd.S_slice hS2
    have hB2 := HB.out.trans (hb2.mono HB.out.size)
    have HF := Aside0.mk (show ∃ f, (Kd.tag f kX).R 29 w2 w.heap.size (fun _ => True) (.slice A2 Y.length c2) Y.zipIdx from by obtain ⟨f, hf⟩ := hS2; exact ⟨f, Kd.R_lower hf HB.out.size⟩)
    have HS2 := Aside0.mk (Kd.S_reads' hS2)
    have HB2 := Aside0.mk hB2
    rw [HM.out] at HF HS2 ⊢
    clear hS2 hb2 hB2 HB
    have HC2 := Aside0.mk (Kd.C_below HC.out HB2.out)
    have HB3 := Aside0.mk (Below.refl w2.heap.size w2)
    go_wp2_with fail
    refine (HRT.out w2 HC2.out).mono ?_
    rintro e w3 ⟨v3, rfl, hS3, hb3⟩
    obtain ⟨A3, c3, rfl⟩ := Kd.S_slice hS3
    have HS3 := Aside0.mk (Kd.S_reads' hS3)
    have hbb := HB3.out.trans hb3
    clear HB3 hS3
    have HB3 := Aside0.mk hbb
    have HR3 := Aside0.mk hb3
    clear hb3 hbb
    rw [HM.out] at HS3 ⊢
    go_wp2_with fail
    refine (HS.out w3 A2 A3 c2 c3 (Kd.C_below HS2.out.2.2 HB3.out) HS2.out.2.1 HS3.out.2.2 HS3.out.2.1).mono ?_
    rintro e w4 ⟨rfl, hb4⟩
    have HB4 := Aside0.mk (HB3.out.trans (hb4.mono HB3.out.size))
    clear hb4 HB3 HS3 HR3
    go_wp2_with fail
    refine (HLO.out w4 (Kd.C_below HC2.out HB4.out)).mono ?_
    rintro e w5 ⟨rfl, hb5⟩
    have HB5 := Aside0.mk (HB4.out.trans (hb5.mono HB4.out.size))
    clear hb5 HB4
    go_wp2_with fail
    refine (HRL.out w5 (Kd.C_below HC2.out HB5.out)).mono ?_
    rintro e w6 ⟨rfl, hb6⟩
    have HB6 := Aside0.mk (HB5.out.trans (hb6.mono HB5.out.size))
    clear hb6 HB5
    go_wp2_with fail
    obtain ⟨f, hf⟩ := HF.out
    have HF2 := Aside0.mk (Kd.R_move (Kd.R_bound hf) (fun k hk => (HB6.out.block k hk.2.2.1)))
    have hBW := HB2.out.trans (HB6.out.mono HB2.out.size)
    have HBW := Aside0.mk hBW
    have HCW := Aside0.mk (Kd.C_below HC2.out HB6.out)
    clear hf HF HB6 HS2 HC2 HC hBW
    go_loopg [7] n (fun gq s7 wr => ∃ i : Nat, i ≤ n ∧ n - i ≤ gq ∧ s7 = .int .i64 i ∧ Aside0 (Below w.heap.size w6 wr) ∧ Aside0 (∀ k, (some k = (Value.slice A2 n c2).ownBlock ∨ i ≤ f k) → wr.heap[k]? = w6.heap[k]?))
    case atStart => exact ⟨0, by omega, by omega, rfl, ⟨Below.refl _ _⟩, ⟨fun _ _ => rfl⟩⟩
    case round =>
      obtain ⟨i, hi, hg, rfl, HB, HK⟩ := hrel
      by_cases hlt : i < n
      · have hiY : i < Y.length := by have := HM.out; omega
        have hsq := seq_at HF2.out i hiY
        rw [HM.out] at hsq
        obtain ⟨g, cap, u, e, ⟨cells, hh, hu⟩, hR⟩ := hsq
        injection e with e1 e2 e3
        subst e1 e3
        have hw := (HK.out g (.inl rfl)).trans hh
        have hcell : wr.cell? ⟨g, i, none⟩ = some u := (blk_cell hw i).trans hu
        have HSP := Aside0.mk (spoil_at (Kd.R_move hR (fun k hk => HK.out k (.inr (by have := hk.2; omega)))))
        have HUB := Aside0.mk hR.1
        clear hh hu hR hw e2
        go_wp2_with fail
        refine HSP.out.mono ?_
        rintro e w7 ⟨rfl, hb7, hk7⟩
        have HB7 := Aside0.mk (HB.out.trans hb7)
        have HK7 := Aside0.mk hk7
        clear hb7 hk7 hcell HSP HB
        go_wp2_with fail
        go_roundg (n - (i + 1))
        case measure => omega
        case rel =>
          refine ⟨i + 1, by omega, by omega, by rw [show wrap64 ((i : Int) + 1) = ((i + 1 : Nat) : Int) from wrap_to (by omega) (by omega) (by have := HX0.out; omega)], HB7, ⟨fun k hk => ?_⟩⟩
          have hne : some k ≠ u.ownBlock := by
            intro e
            have h2 := HUB.out k e.symm
            rcases hk with hk | hk
            · exact h2.1.2 hk
            · have := h2.2
              omega
          exact (HK7.out k hne).trans (HK.out k (hk.imp id (fun h => by omega)))
      · have hB8 := HBW.out.trans HB.out
        have HB8 := Aside0.mk hB8
        have HA0 := Aside0.mk (HCW.out)
        have hC8 : Kd.C kX wr A0 n X := Kd.C_below HC0.out hB8
        have HC8 := Aside0.mk hC8
        clear hB8 hC8 HF2 HBW HCW HK HB
        go_wp2_with fail
        refine (HT.out wr HC8.out).mono ?_
        rintro e w7 ⟨v7, rfl, hS7, hb7⟩
        obtain ⟨A7, c7, rfl⟩ := Kd.S_slice hS7
        have HS7 := Aside0.mk (Kd.S_reads' hS7)
        have HB7 := Aside0.mk hb7
        clear hb7 hS7
        rw [HM.out] at HS7 ⊢
        go_wp2_with fail
        refine (HRT.out w7 (Kd.C_below HC8.out HB7.out)).mono ?_
        rintro e w9 ⟨v9, rfl, hS9, hb9⟩
        obtain ⟨A9, c9, rfl⟩ := Kd.S_slice hS9
        have HS9 := Aside0.mk (Kd.S_reads' hS9)
        have HS79 := Aside0.mk (Kd.C_below HS7.out.2.2 hb9)
        have HB9 := Aside0.mk (HB7.out.trans (hb9.mono HB7.out.size))
        clear hb9 hS9 HB7
        rw [HM.out] at HS9 ⊢
        go_wp2_with fail
        refine (HS.out w9 A7 A9 c7 c9 HS79.out HS7.out.2.1 HS9.out.2.2 HS9.out.2.1).mono ?_
        rintro e w10 ⟨rfl, hb10⟩
        have HB10 := Aside0.mk (HB9.out.trans (hb10.mono HB9.out.size))
        clear hb10 HB9
        go_wp2_with fail
        refine (HW.out w10).mono ?_
        rintro e w11 ⟨rfl, hb11⟩
        have HB11 := Aside0.mk (HB10.out.trans (hb11.mono HB10.out.size))
        clear hb11 HB10
        go_wp2
        go_ret
        exact ⟨rfl, HB8.out.trans (HB11.out.mono HB8.out.size)⟩
end Go.Proofs.Ytoihlfiacnljhaa.Pure
