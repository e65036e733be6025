/- BracketWrites: a set written out is read as that set; no condition. -/
import Derived.Test.YtheheijhijeljaaGreatDoorHBracketWritesx13
import Derived.Test.YtheheijhijeljaaGreatDoorBBracketWrites1
namespace Go.Proofs.YtheheijhijeljaaGreatDoor.Pure
open Go.RowKit Go.Proofs.YtheheijhijeljaaGreatDoor.HBracketWrites Go.Proofs.YtheheijhijeljaaGreatDoorW.PrintWords Go.Proofs.YtheheijhijeljaaGreatDoorW.PrintLast
open Go.Proofs.YtheheijhijeljaaGreatDoorX
set_option linter.unusedVariables false
theorem ev_from {α : Type} {g : Nat → Option α} {r : α} (K : Nat) (h : ∀ k, K ≤ k → g k = some r) : Ev g r := ⟨K, h⟩
theorem wr {x y : Int} (e : x = y) (h0 : -9223372036854775808 ≤ y) (h1 : y ≤ 9223372036854775807) : wrap64 x = y := by
  subst e
  unfold wrap64
  omega
theorem wrap_in {x : Int} (h0 : -9223372036854775808 ≤ x) (h1 : x ≤ 9223372036854775807) : wrap64 x = x := wr rfl h0 h1
theorem bt_drop {l : List UInt8} {i : Nat} {c : UInt8} {t : List UInt8} (h : l.drop i = c :: t) : bt ⟨⟨l⟩⟩ (i : Int) = (c.toNat : Int) ∧ i < l.length ∧ l.drop (i + 1) = t := by
  have hi : i < l.length := Decidable.byContradiction fun hh => by rw [List.drop_eq_nil_of_le (by omega)] at h; cases h
  rw [List.drop_eq_getElem_cons hi] at h
  obtain ⟨h1, h2⟩ := List.cons.inj h
  refine ⟨?_, hi, h2⟩
  unfold bt
  rw [dif_pos (show ((i : Int)).toNat < (ByteArray.mk ⟨l⟩).size by simpa [ByteArray.size] using hi)]
  rw [← h1]
  rfl
theorem sz (l : List UInt8) : (ByteArray.mk ⟨l⟩).size = l.length := by simp [ByteArray.size]
theorem tl (l : List UInt8) : (ByteArray.mk ⟨l⟩).toList = l := by rw [ByteArray.toList_eq]
theorem u8_in (c : UInt8) : 0 ≤ (c.toNat : Int) ∧ (c.toNat : Int) ≤ 255 := by have := c.toNat_lt; omega
/-- What a hexadecimal digit says. -/
def digV (c : Int) : Int := if 48 ≤ c ∧ c ≤ 57 then c - 48 else if 97 ≤ c ∧ c ≤ 102 then c - 87 else if 65 ≤ c ∧ c ≤ 70 then c - 55 else -1
theorem digV_in (c : Int) : -1 ≤ digV c ∧ digV c ≤ 15 := by
  unfold digV
  split
  · omega
  split
  · omega
  split <;> omega
theorem digit_f (k : Nat) {c : Int} (h0 : 0 ≤ c) (h1 : c ≤ 255) : bracket_digit.f (k + 2) c = some (digV c) := by
  unfold bracket_digit.f digV
  by_cases a : 48 ≤ c
  · by_cases b : c ≤ 57
    · rw [if_pos a, decide_eq_true b, if_pos ⟨a, b⟩, bracket_digit.j0, if_pos rfl]
      congr 1
      omega
    · rw [if_pos a, decide_eq_false b, if_neg (fun h => b h.2), bracket_digit.j0, if_neg (by decide)]
      by_cases d : 97 ≤ c
      · by_cases e : c ≤ 102
        · rw [if_pos d, decide_eq_true e, if_pos ⟨d, e⟩, bracket_digit.j1, if_pos rfl]
          congr 1
          omega
        · rw [if_pos d, decide_eq_false e, if_neg (fun h => e h.2), bracket_digit.j1, if_neg (by decide), if_pos (by omega), if_neg (by omega), if_neg (by omega)]
      · rw [if_neg d, if_neg (fun h => d h.1), bracket_digit.j1, if_neg (by decide)]
        by_cases f : 65 ≤ c
        · by_cases g : c ≤ 70
          · rw [if_pos f, if_pos g, if_pos ⟨f, g⟩]
            congr 1
            omega
          · rw [if_pos f, if_neg g, if_neg (fun h => g h.2)]
        · rw [if_neg f, if_neg (fun h => f h.1)]
  · rw [if_neg a, if_neg (fun h => a h.1), if_neg (by omega), if_neg (by omega), bracket_digit.j0, if_neg (by decide), if_neg (by omega), bracket_digit.j1, if_neg (by decide), if_neg (by omega)]
/-- A number between braces: what stands from a place on, and what was read. -/
def hexLongV : List UInt8 → Nat → Int → Int × Int × Int
  | [], _, _ => (0, 0, 82)
  | c :: t, i, r => if (c.toNat : Int) = 125 ∧ 3 < i ∧ r ≤ 1114111 then (r, (i : Int) + 1, 0) else if digV c.toNat < 0 ∨ i = 9 then (0, 0, 80) else hexLongV t (i + 1) (16 * r + digV c.toNat)
def hexShortV : List UInt8 → Int × Int × Int
  | [] => (0, 0, 82)
  | [a] => if digV a.toNat < 0 then (0, 0, 80) else (0, 0, 82)
  | a :: b :: _ => if digV a.toNat < 0 then (0, 0, 80) else if digV b.toNat < 0 then (0, 0, 80) else (16 * digV a.toNat + digV b.toNat, 4, 0)
def plainV (c : Int) : Option Int := if c = 97 then some 7 else if c = 102 then some 12 else if c = 116 then some 9 else if c = 110 then some 10 else if c = 114 then some 13 else if c = 118 then some 11 else none
def letB (c : Int) : Bool := decide (97 ≤ c ∧ c ≤ 122 ∨ 65 ≤ c ∧ c ≤ 90)
/-- An escape of a number. -/
def escV : List UInt8 → Int × Int × Int
  | [] => (0, 0, 3)
  | [c] => if (c.toNat : Int) = 92 then (0, 0, 82) else (0, 0, 3)
  | c :: d :: t => if (c.toNat : Int) = 92 then (match plainV d.toNat with
      | some v => (v, 2, 0)
      | none => if (d.toNat : Int) = 120 then (if t.head? = some 123 then hexLongV t.tail 3 0 else hexShortV t) else if (d.toNat : Int) < 33 ∨ (d.toNat : Int) > 126 ∨ letB d.toNat = true ∨ 48 ≤ (d.toNat : Int) ∧ (d.toNat : Int) ≤ 57 then (0, 0, 80) else (d.toNat, 2, 0))
    else (0, 0, 3)
theorem long_ev (s : List UInt8) : ∀ (l : List UInt8) (i : Nat) (r : Int), s.drop i = l → 3 ≤ i → i ≤ 9 → 0 ≤ r → r < 16 ^ (i - 3) → s.length ≤ 1000000 → Ev (fun k => bracket_long.l0 k ⟨⟨s⟩⟩ r i) (hexLongV l i r)
  | [], i, r, h, h3, h9, h0, h1, hs => by
    have : s.length ≤ i := List.drop_eq_nil_iff.1 h
    refine Ev.step (fun k => ?_) (Ev.now _)
    rw [bracket_long.l0, sz, if_neg (by omega)]
    rfl
  | c :: t, i, r, h, h3, h9, h0, h1, hs => by
    obtain ⟨hb, hi, ht⟩ := bt_drop h
    have hc := u8_in c
    have hd := digV_in c.toNat
    have hr : r < 16777216 := Int.lt_of_lt_of_le h1 (by
      have : i - 3 = 0 ∨ i - 3 = 1 ∨ i - 3 = 2 ∨ i - 3 = 3 ∨ i - 3 = 4 ∨ i - 3 = 5 ∨ i - 3 = 6 := by omega
      rcases this with e | e | e | e | e | e | e <;> rw [e] <;> decide)
    have hj : ∀ b : Bool, b = decide ((c.toNat : Int) = 125 ∧ 3 < i ∧ r ≤ 1114111) → Ev (fun k => bracket_long.j1 k ⟨⟨s⟩⟩ r i (digV c.toNat) b) (hexLongV (c :: t) i r) := by
      intro b hb2
      unfold hexLongV
      by_cases g : (c.toNat : Int) = 125 ∧ 3 < i ∧ r ≤ 1114111
      · rw [if_pos g]
        rw [decide_eq_true g] at hb2
        subst hb2
        refine Ev.step (fun k => ?_) (Ev.now _)
        rw [bracket_long.j1, if_pos rfl, wr (y := (i : Int) + 1) rfl (by omega) (by omega)]
      · rw [if_neg g]
        rw [decide_eq_false g] at hb2
        subst hb2
        by_cases e1 : digV c.toNat < 0
        · rw [if_pos (.inl e1)]
          refine Ev.step (fun k => ?_) (Ev.now _)
          rw [bracket_long.j1, if_neg (by decide), if_pos e1]
        · by_cases e2 : i = 9
          · rw [if_pos (.inr e2)]
            refine Ev.step (fun k => ?_) (Ev.now _)
            rw [bracket_long.j1, if_neg (by decide), if_neg e1, wr (y := (i : Int) - 3) rfl (by omega) (by omega), if_pos (by omega)]
          · rw [if_neg (fun h => h.elim e1 e2)]
            refine Ev.step (fun k => ?_) (long_ev s t (i + 1) (16 * r + digV c.toNat) ht (by omega) (by omega) (by omega) ?_ hs)
            · rw [bracket_long.j1, if_neg (by decide), if_neg e1, wr (y := (i : Int) - 3) rfl (by omega) (by omega), if_neg (by omega), wr (y := 16 * r) rfl (by omega) (by omega), wr (y := 16 * r + digV c.toNat) rfl (by omega) (by omega), wr (y := ((i + 1 : Nat) : Int)) (by omega) (by omega) (by omega)]
            · rw [show i + 1 - 3 = (i - 3) + 1 by omega, Int.pow_succ]
              omega
    obtain ⟨K, hK⟩ := hj _ rfl
    refine ⟨K + 3, fun k hk => ?_⟩
    obtain ⟨m, rfl⟩ : ∃ m, k = m + 2 + 1 := ⟨k - 3, by omega⟩
    have h2 : bracket_long.j1 (m + 2) ⟨⟨s⟩⟩ r i (digV c.toNat) _ = _ := hK (m + 2) (by omega)
    show bracket_long.l0 (m + 2 + 1) _ _ _ = _
    rw [bracket_long.l0, sz, if_pos (by omega), if_pos (by omega), hb, digit_f _ hc.1 hc.2, Option.bind_some, ← h2]
    by_cases g1 : (c.toNat : Int) = 125
    · by_cases g2 : 3 < i
      · rw [if_pos g1, if_pos (by omega), show decide ((c.toNat : Int) = 125 ∧ 3 < i ∧ r ≤ 1114111) = decide (r ≤ 1114111) from by rw [Bool.eq_iff_iff]; simp only [decide_eq_true_eq]; exact ⟨fun h => h.2.2, fun h => ⟨g1, g2, h⟩⟩]
      · rw [if_pos g1, if_neg (by omega), decide_eq_false (fun h : (c.toNat : Int) = 125 ∧ 3 < i ∧ r ≤ 1114111 => g2 h.2.1)]
    · rw [if_neg g1, decide_eq_false (fun h : (c.toNat : Int) = 125 ∧ 3 < i ∧ r ≤ 1114111 => g1 h.1)]
theorem short_ev (s : List UInt8) (h2 : 2 ≤ s.length) (hs : s.length ≤ 1000000) : Ev (fun k => bracket_short.f k ⟨⟨s⟩⟩) (hexShortV (s.drop 2)) := by
  refine ⟨6, fun k hk => ?_⟩
  obtain ⟨m, rfl⟩ : ∃ m, k = m + 2 + 1 + 1 + 1 + 1 := ⟨k - 6, by omega⟩
  show bracket_short.f (m + 2 + 1 + 1 + 1 + 1) _ = _
  unfold bracket_short.f
  have z := sz s
  rw [bracket_short.l0, if_pos (by omega), z]
  cases h : s.drop 2 with
  | nil =>
    have : s.length ≤ 2 := List.drop_eq_nil_iff.1 h
    rw [if_pos (by omega)]
    rfl
  | cons a t =>
    obtain ⟨hb, hi, ht⟩ := bt_drop h
    have ha := u8_in a
    have hd := digV_in a.toNat
    rw [if_neg (by omega), if_pos (by omega), if_pos (by omega), show (2 : Int) = ((2 : Nat) : Int) from rfl, hb, digit_f _ ha.1 ha.2, Option.bind_some]
    by_cases e : digV a.toNat < 0
    · rw [if_pos e]
      cases t with
      | nil => simp only [hexShortV]; rw [if_pos e]
      | cons b u => simp only [hexShortV]; rw [if_pos e]
    · rw [if_neg e, show wrap64 (wrap64 (16 * 0) + digV a.toNat) = digV a.toNat from by rw [wr (x := 16 * 0) (y := 0) rfl (by omega) (by omega)]; exact wr (by omega) (by omega) (by omega), wr (x := ((2 : Nat) : Int) + 1) (y := 3) rfl (by omega) (by omega)]
      rw [bracket_short.l0, if_pos (by omega), z]
      cases t with
      | nil =>
        have : s.length ≤ 3 := List.drop_eq_nil_iff.1 ht
        rw [if_pos (by omega)]
        simp only [hexShortV]; rw [if_neg e]
      | cons b u =>
        obtain ⟨hb2, hi2, ht2⟩ := bt_drop ht
        have hb' := u8_in b
        have hd' := digV_in b.toNat
        rw [if_neg (by omega), if_pos (by omega), if_pos (by omega), show (3 : Int) = ((2 + 1 : Nat) : Int) from rfl, hb2, digit_f _ hb'.1 hb'.2, Option.bind_some]
        by_cases e2 : digV b.toNat < 0
        · rw [if_pos e2]
          simp only [hexShortV]; rw [if_neg e, if_pos e2]
        · rw [if_neg e2, wr (y := 16 * digV a.toNat) rfl (by omega) (by omega), wr (y := 16 * digV a.toNat + digV b.toNat) rfl (by omega) (by omega), wr (x := ((2 + 1 : Nat) : Int) + 1) (y := 4) rfl (by omega) (by omega)]
          rw [bracket_short.l0, if_neg (by omega)]
          simp only [hexShortV]; rw [if_neg e, if_neg e2]
theorem letter_f {c : Int} : bracket_letter.f c = some (letB c) := by
  unfold bracket_letter.f letB
  by_cases a : 97 ≤ c
  · by_cases b : c ≤ 122
    · rw [if_pos a, if_pos b, decide_eq_true (.inl ⟨a, b⟩)]
    · rw [if_pos a, if_neg b, if_pos (by omega), decide_eq_false (by omega), decide_eq_false (by omega)]
  · rw [if_neg a]
    by_cases d : 65 ≤ c
    · by_cases e : c ≤ 90
      · rw [if_pos d, decide_eq_true e, decide_eq_true (.inr ⟨d, e⟩)]
      · rw [if_pos d, decide_eq_false e, decide_eq_false (by omega)]
    · rw [if_neg d, decide_eq_false (by omega)]
theorem plain_mem {c v : Int} (h : plainV c = some v) : c ∈ numLetters ∧ numPlain.getD (numLetters.idxOf c) 0 = v := by
  unfold plainV at h
  repeat' split at h
  all_goals first
    | (cases h; done)
    | (obtain rfl := Option.some.inj h; subst_vars; exact ⟨by decide, by decide⟩)
theorem plain_not {c : Int} (h : plainV c = none) : c ∉ numLetters := by
  unfold plainV at h
  repeat' split at h
  all_goals first
    | (cases h; done)
    | (simp [numLetters]; omega)
theorem ev_const {α : Type} {g : Nat → Option α} {r : α} (h : ∀ k, g k = some r) : Ev g r := ⟨0, fun k _ => h k⟩
theorem u8_eq {c : UInt8} {n : Nat} (h : (c.toNat : Int) = (n : Int)) (hn : n < 256) : c = n.toUInt8 := by
  apply UInt8.toNat_inj.1
  rw [show c.toNat = n by omega]
  simp
  omega
/-- The program's answer for an escape of a number. -/
theorem num_ev (s : List UInt8) (hs : s.length ≤ 1000000) : Ev (fun k => bracket_Number.f k ⟨⟨s⟩⟩) (escV s) := by
  have z := sz s
  match s, z, hs with
  | [], _, _ => exact ev_const fun k => by unfold bracket_Number.f; rw [tl, if_pos rfl]; rfl
  | c :: t, z, hs =>
    have hb : bt ⟨⟨c :: t⟩⟩ 0 = (c.toNat : Int) := (bt_drop (l := c :: t) (i := 0) rfl).1
    have hc := u8_in c
    by_cases e : (c.toNat : Int) = 92
    · cases t with
      | nil => exact ev_const fun k => by unfold bracket_Number.f; rw [tl, if_neg (by simp), hb, if_pos e, z, if_pos (by simp)]; simp only [escV]; rw [if_pos e]
      | cons d u =>
        have hd := u8_in d
        have hb1 : bt ⟨⟨c :: d :: u⟩⟩ 1 = (d.toNat : Int) := (bt_drop (l := c :: d :: u) (i := 1) rfl).1
        have h0 : ∀ k, bracket_Number.f k ⟨⟨c :: d :: u⟩⟩ = if (d.toNat : Int) ∈ numLetters then some (numPlain.getD (numLetters.idxOf (d.toNat : Int)) 0, 2, 0) else if (d.toNat : Int) = 120 then (if 2 < ((ByteArray.mk ⟨c :: d :: u⟩).size : Int) ∧ bt ⟨⟨c :: d :: u⟩⟩ 2 = 123 then bracket_long.f k ⟨⟨c :: d :: u⟩⟩ else bracket_short.f k ⟨⟨c :: d :: u⟩⟩)
            else if (d.toNat : Int) < 33 ∨ (d.toNat : Int) > 126 then some (0, 0, 80) else (bracket_letter.f (d.toNat : Int)).bind fun t => if t = true ∨ 48 ≤ (d.toNat : Int) ∧ (d.toNat : Int) ≤ 57 then some (0, 0, 80) else some ((d.toNat : Int), 2, 0) := fun k => by
          unfold bracket_Number.f
          rw [tl, if_neg (by simp), hb, if_pos e, if_neg (by rw [z]; simp only [List.length_cons]; omega), if_pos (by rw [z]; simp only [List.length_cons]; omega), hb1]
        simp only [escV]
        rw [if_pos e]
        cases hp : plainV (d.toNat : Int) with
        | some v =>
          obtain ⟨h1, h2⟩ := plain_mem hp
          exact ev_const fun k => by rw [h0, if_pos h1, h2]
        | none =>
          have h1 := plain_not hp
          by_cases e2 : (d.toNat : Int) = 120
          · simp only [if_pos e2]
            cases u with
            | nil => exact Ev.congr (fun k => by rw [h0, if_neg h1, if_pos e2, if_neg (by rw [z]; simp)]) (short_ev (c :: d :: []) (by simp) hs)
            | cons f v =>
              have hb2 : bt ⟨⟨c :: d :: f :: v⟩⟩ 2 = (f.toNat : Int) := (bt_drop (l := c :: d :: f :: v) (i := 2) rfl).1
              by_cases e3 : (f.toNat : Int) = 123
              · have hf : f = 123 := u8_eq (n := 123) e3 (by omega)
                rw [if_pos (by rw [hf]; rfl)]
                exact Ev.congr (fun k => by rw [h0, if_neg h1, if_pos e2, if_pos ⟨by rw [z]; simp only [List.length_cons]; omega, by rw [hb2]; exact e3⟩]; rfl) (long_ev (c :: d :: f :: v) v 3 0 rfl (by omega) (by omega) (by omega) (by decide) hs)
              · rw [if_neg (by simp; intro h; subst h; exact e3 rfl)]
                exact Ev.congr (fun k => by rw [h0, if_neg h1, if_pos e2, if_neg (fun h => e3 (hb2 ▸ h.2))]) (short_ev (c :: d :: f :: v) (by simp) hs)
          · simp only [if_neg e2]
            refine ev_const fun k => ?_
            rw [h0, if_neg h1, if_neg e2]
            by_cases e3 : (d.toNat : Int) < 33
            · rw [if_pos (.inl e3), if_pos (.inl e3)]
            by_cases e4 : (d.toNat : Int) > 126
            · rw [if_pos (.inr e4), if_pos (.inr (.inl e4))]
            rw [if_neg (by omega), letter_f, Option.bind_some]
            by_cases e5 : letB d.toNat = true ∨ 48 ≤ (d.toNat : Int) ∧ (d.toNat : Int) ≤ 57
            · rw [if_pos e5, if_pos (.inr (.inr e5))]
            · rw [if_neg e5, if_neg (fun h => h.elim e3 (fun h => h.elim e4 e5))]
    · refine ev_const fun k => ?_
      unfold bracket_Number.f
      rw [tl, if_neg (by simp), hb, if_neg e]
      cases t with
      | nil => simp only [escV]; rw [if_neg e]
      | cons d u => simp only [escV]; rw [if_neg e]
theorem not_l0 (s : List (Int × Int)) (hs : ∀ x ∈ s, 0 ≤ x.1 ∧ x.1 ≤ x.2 ∧ x.2 ≤ 1114111) (hn : s.length ≤ 900000) (d : Nat) : ∀ (i : Nat) (p : List (Int × Int)) (f : Int), i ≤ s.length → s.length - i = d → p.length + d ≤ 900000 → 0 ≤ f → f ≤ 1114112 →
    Ev (fun k => ranges_Not.l0 k (p.map toRg) f (s.map toRg) (s.length : Int) i) ((p ++ notG f (s.drop i)).map toRg) := by
  induction d with
  | zero =>
    intro i p f hi hd hp h0 h1
    have e : i = s.length := by omega
    subst e
    refine Ev.step (fun k => ?_) (Ev.now _)
    simp only [ranges_Not.l0]
    rw [if_neg (by omega), List.drop_of_length_le (Nat.le_refl _)]
    by_cases hf : f ≤ 1114111
    · rw [if_pos hf, if_pos (by simp; omega), notG, if_pos hf]
      simp [toRg]
    · rw [if_neg hf, notG, if_neg hf, List.append_nil]
  | succ d ih =>
    intro i p f hi hd hp h0 h1
    have hlt : i < s.length := by omega
    have hx := hs _ (List.getElem_mem hlt)
    have hstep : ∀ k, ranges_Not.l0 (k + 1) (p.map toRg) f (s.map toRg) (s.length : Int) i = if s[i].1 > f then ranges_Not.l0 k ((p ++ [(f, s[i].1 - 1)]).map toRg) (s[i].2 + 1) (s.map toRg) (s.length : Int) ((i + 1 : Nat) : Int) else ranges_Not.l0 k (p.map toRg) (s[i].2 + 1) (s.map toRg) (s.length : Int) ((i + 1 : Nat) : Int) := by
      intro k
      simp only [ranges_Not.l0]
      rw [if_pos (by omega), if_pos (by omega), if_pos (by simp; omega), rd_rg s i hlt]
      rw [show (toRg s[i]).f0 = s[i].1 from rfl, show (toRg s[i]).f1 = s[i].2 from rfl, wrap_rg (x := s[i].1 - 1) (by omega) (by omega), wrap_rg (x := s[i].2 + 1) (by omega) (by omega), wrap_rg (x := (i : Int) + 1) (by omega) (by omega), show (i : Int) + 1 = ((i + 1 : Nat) : Int) by omega]
      rw [if_pos (c := (List.map toRg p).length < 8796093022208) (by simp; omega)]
      simp [toRg]
    rw [List.drop_eq_getElem_cons hlt, notG]
    by_cases h : s[i].1 > f
    · rw [if_pos h]
      have := ih (i + 1) (p ++ [(f, s[i].1 - 1)]) (s[i].2 + 1) (by omega) (by omega) (by simp; omega) (by omega) (by omega)
      rw [List.append_assoc] at this
      exact Ev.step (fun k => by rw [hstep k, if_pos h]) this
    · rw [if_neg h]
      exact Ev.step (fun k => by rw [hstep k, if_neg h]) (ih (i + 1) p (s[i].2 + 1) (by omega) (by omega) (by omega) (by omega) (by omega))
theorem not_ev (l : List S36) (hn : l.length ≤ 900000) : Ev (fun k => ranges_Not.f k l) ((notL (l.map ofRg)).map toRg) := by
  have hl := normL_len (l.map ofRg)
  rw [List.length_map] at hl
  have hN := normL_nrm (l.map ofRg)
  have := not_l0 (normL (l.map ofRg)) (fun x hx => hN.inr x hx) (by omega) _ 0 [] 0 (Nat.zero_le _) rfl (by simp; omega) (by omega) (by omega)
  unfold ranges_Not.f
  refine Ev.bind (norm_ev l hn) ?_
  simpa [notL] using this
theorem same_l0 (s : List S36) (hn : s.length ≤ 2000000) (d : Nat) : ∀ i : Nat, i ≤ s.length → s.length - i = d → Ev (fun k => burinbook_SameRanges.l0 k s s true i) true := by
  induction d with
  | zero =>
    intro i hi hd
    refine Ev.step (fun k => ?_) (Ev.now _)
    simp only [burinbook_SameRanges.l0]
    rw [if_pos trivial, if_neg (by omega)]
  | succ d ih =>
    intro i hi hd
    refine Ev.step (fun k => ?_) (ih (i + 1) (by omega) (by omega))
    simp only [burinbook_SameRanges.l0]
    rw [if_pos trivial, if_pos (by omega), if_pos (by omega), if_pos (by omega), wrap_rg (x := (i : Int) + 1) (by omega) (by omega), show (i : Int) + 1 = ((i + 1 : Nat) : Int) by omega]
    simp
theorem same_ev (s : List S36) (hn : s.length ≤ 2000000) : Ev (fun k => burinbook_SameRanges.f k s s) true := by
  have := same_l0 s hn _ 0 (Nat.zero_le _) rfl
  unfold burinbook_SameRanges.f
  simpa using this
/-- Of a text's first byte. -/
theorem ex01 (c : UInt8) (t : List UInt8) : ((ByteArray.mk ⟨c :: t⟩).extract 0 1).toList = [c] := by
  rw [ByteArray.toList_eq, ByteArray.data_extract]
  simp
theorem ex1n (c : UInt8) (t : List UInt8) : (ByteArray.mk ⟨c :: t⟩).extract 1 (t.length + 1) = ⟨⟨t⟩⟩ := by
  apply ByteArray.ext
  rw [ByteArray.data_extract]
  simp
theorem sz_cons (c : UInt8) (t : List UInt8) : (ByteArray.mk ⟨c :: t⟩).size = t.length + 1 := by
  simp [ByteArray.size]
theorem caret_app (s : ByteArray) : (⟨#[94]⟩ : ByteArray) ++ s = ⟨⟨94 :: s.data.toList⟩⟩ := by
  apply ByteArray.ext
  rw [ByteArray.data_append]
  apply Array.ext'
  simp
theorem prefix_cons (c : UInt8) (t : List UInt8) : stringslite_HasPrefix.f ⟨⟨c :: t⟩⟩ (⟨#[94]⟩ : ByteArray) = some (c == 94) := by
  unfold stringslite_HasPrefix.f
  have h1 : (⟨#[94]⟩ : ByteArray).size = 1 := rfl
  have h2 : (⟨#[94]⟩ : ByteArray).toList = [94] := by rw [ByteArray.toList_eq]
  rw [sz_cons, h1, if_pos (by omega), if_pos (by omega), if_pos (by omega), h2, show (((1 : Nat) : Int)).toNat = 1 from rfl, ex01]
  simp
theorem cut_cons (c : UInt8) (t : List UInt8) : strings_CutPrefix.f ⟨⟨c :: t⟩⟩ (⟨#[94]⟩ : ByteArray) = some (if c = 94 then ((⟨⟨t⟩⟩ : ByteArray), true) else (⟨⟨c :: t⟩⟩, false)) := by
  unfold strings_CutPrefix.f stringslite_CutPrefix.f
  rw [prefix_cons, Option.bind_some]
  have h1 : (⟨#[94]⟩ : ByteArray).size = 1 := rfl
  by_cases h : c = 94
  · rw [if_pos (by simpa using h), h1, if_pos (by omega), sz_cons, if_pos (by omega), show (((1 : Nat) : Int)).toNat = 1 from rfl, ex1n, if_pos h]
    rfl
  · rw [if_neg (by simpa using h), if_neg h]
    rfl
theorem cut_nil : strings_CutPrefix.f ⟨⟨[]⟩⟩ (⟨#[94]⟩ : ByteArray) = some ((⟨⟨[]⟩⟩ : ByteArray), false) := by
  unfold strings_CutPrefix.f stringslite_CutPrefix.f stringslite_HasPrefix.f
  rw [if_neg (by decide)]
  rfl
/-- Whether a text begins with the sign for what a set lacks. -/
def caret (s : ByteArray) : Bool := s.data.toList.head? == some 94
theorem cut_plain {s : ByteArray} (h : caret s = false) : strings_CutPrefix.f s (⟨#[94]⟩ : ByteArray) = some (s, false) := by
  obtain ⟨⟨l⟩⟩ := s
  cases l with
  | nil => exact cut_nil
  | cons c t =>
    rw [cut_cons, if_neg]
    intro e
    subst e
    simp [caret] at h
theorem cut_caret (s : ByteArray) : strings_CutPrefix.f ((⟨#[94]⟩ : ByteArray) ++ s) (⟨#[94]⟩ : ByteArray) = some (s, true) := by
  rw [caret_app, cut_cons, if_pos rfl]
theorem splitB_small (sep : ByteArray) (k : Nat) : ∀ s : ByteArray, ∀ x ∈ Lib.splitB sep 0 k s, x.size ≤ s.size := by
  induction k with
  | zero =>
    intro s x hx
    obtain rfl : x = s := by simpa [Lib.splitB] using hx
    exact Nat.le_refl _
  | succ k ih =>
    intro s x hx
    unfold Lib.splitB at hx
    split at hx
    · obtain rfl : x = s := by simpa using hx
      exact Nat.le_refl _
    · rcases List.mem_cons.1 hx with rfl | hx
      · rw [ByteArray.size_extract]; omega
      · have := ih _ x hx
        rw [ByteArray.size_extract] at this
        omega
theorem split_small {s : ByteArray} (h : s.size ≤ 990) : SmallPieces s ∧ splitN s ≤ 1000 := by
  have hle := Lib.countB_le ⟨#[32]⟩ (by decide) s.size s (Nat.le_refl _)
  refine ⟨⟨by omega, fun x hx => ?_⟩, by unfold splitN; omega⟩
  have := splitB_small ⟨#[32]⟩ _ s x hx
  omega
/-- A table of names: short ones, of which none begins with that sign. -/
def tabOk (l : List S105) : Bool := decide (0 < l.length) && l.all fun x => decide (x.f1.size ≤ 990) && !caret x.f0
theorem tab_good {l : List S105} (h : tabOk l = true) : goodNm (l.map ofNm) = true ∧ ∀ x ∈ l.map ofNm, caret x.1 = false := by
  unfold tabOk at h
  simp only [Bool.and_eq_true, decide_eq_true_eq, List.all_eq_true, Bool.not_eq_true'] at h
  refine ⟨?_, fun x hx => ?_⟩
  · unfold goodNm
    simp only [Bool.and_eq_true, decide_eq_true_eq, List.all_eq_true, List.length_map]
    refine ⟨h.1, fun x hx => ?_⟩
    obtain ⟨y, hy, rfl⟩ := List.mem_map.1 hx
    obtain ⟨h1, h2⟩ := split_small (s := (ofNm y).2) (h.2 y hy).1
    exact ⟨⟨h1.1, h1.2⟩, h2⟩
  · obtain ⟨y, hy, rfl⟩ := List.mem_map.1 hx
    exact (h.2 y hy).2
theorem find_ok {l : List S105} (h : tabOk l = true) (s : ByteArray) : class_find.f l s = some ((findV normL (l.map ofNm) s).1.map toRg, (findV normL (l.map ofNm) s).2) := by
  unfold class_find.f
  rw [if_pos (tab_good h).1]
theorem find_fact {l : List S105} (h : tabOk l = true) (s : ByteArray) : Nrm (findV normL (l.map ofNm) s).1 ∧ (findV normL (l.map ofNm) s).1.length ≤ 900000 ∧ ((findV normL (l.map ofNm) s).2 = 0 ∨ findV normL (l.map ofNm) s = ([], 70)) := by
  obtain ⟨_, hg⟩ := good_nm (tab_good h).1
  unfold findV
  cases hf : (l.map ofNm).find? (isNm s) with
  | none => exact ⟨Nrm.nil, by simp, Or.inr rfl⟩
  | some x => exact ⟨normL_nrm _, Nat.le_trans (normL_len _) (hg x (List.mem_of_find?_eq_some hf)).2.2, Or.inl rfl⟩
/-- What a name stands for with the sign ahead. -/
def lackV (l : List S105) (s : ByteArray) : List (Int × Int) × Int := if (findV normL (l.map ofNm) s).2 = 0 then (notL (findV normL (l.map ofNm) s).1, 0) else ([], 70)
theorem turned_plain {l : List S105} (h : tabOk l = true) {s : ByteArray} (hs : caret s = false) : Ev (fun k => class_turned.f k l s) ((findV normL (l.map ofNm) s).1.map toRg, (findV normL (l.map ofNm) s).2) := by
  refine ev_from 0 fun k _ => ?_
  unfold class_turned.f
  rw [cut_plain hs, Option.bind_some, find_ok h, Option.bind_some]
  dsimp only
  split <;> rfl
theorem turned_caret {l : List S105} (h : tabOk l = true) (s : ByteArray) : Ev (fun k => class_turned.f k l ((⟨#[94]⟩ : ByteArray) ++ s)) ((lackV l s).1.map toRg, (lackV l s).2) := by
  obtain ⟨hN, hl, h2⟩ := find_fact h s
  obtain ⟨K, hK⟩ := not_ev ((findV normL (l.map ofNm) s).1.map toRg) (by rw [List.length_map]; exact hl)
  refine ev_from K fun k hk => ?_
  unfold class_turned.f
  rw [cut_caret, Option.bind_some, find_ok h, Option.bind_some]
  dsimp only
  unfold lackV
  rcases h2 with h2 | h2
  · have hK' : ranges_Not.f k _ = _ := hK k hk
    rw [if_pos h2, if_pos h2, if_pos rfl, hK', Option.bind_some, map_forth, h2]
  · rw [h2]
    rfl
/-- Up to a byte, and what stands behind it. -/
def cutL (c : UInt8) : List UInt8 → List UInt8 × Option (List UInt8)
  | [] => ([], none)
  | b :: t => if b = c then ([], some t) else ((b :: (cutL c t).1), (cutL c t).2)
theorem cutL_spec (c : UInt8) : ∀ s : List UInt8, (Lib.indexByte s c = -1 ∧ cutL c s = (s, none)) ∨ ∃ i : Nat, Lib.indexByte s c = i ∧ cutL c s = (s.take i, some (s.drop (i + 1)))
  | [] => .inl ⟨rfl, rfl⟩
  | b :: t => by
    unfold Lib.indexByte cutL
    by_cases h : b = c
    · refine .inr ⟨0, ?_, ?_⟩
      · rw [if_pos (by simpa using h)]; rfl
      · rw [if_pos h]; rfl
    · rw [if_neg (by simpa using h), if_neg h]
      rcases cutL_spec c t with ⟨h1, h2⟩ | ⟨i, h1, h2⟩
      · refine .inl ⟨by rw [h1]; rfl, by rw [h2]⟩
      · refine .inr ⟨i + 1, ?_, by rw [h2]; rfl⟩
        rw [h1, if_neg (by rw [beq_iff_eq]; omega)]
        omega
/-- What a letter stands for. -/
def letV (c : Int) : List S36 × Int := (class_Letter.f 90 c).getD ([], 70)
def letOk (c : Int) : Bool := match class_Letter.f 90 c with
  | none => false
  | some a => (decide (a.2 = 0) || (decide (a.2 = 70) && a.1.isEmpty)) && decide (a.1.length ≤ 700)
set_option maxRecDepth 100000 in
theorem lets_ok : (List.range 256).all (fun n => letOk (n : Int)) = true := by decide +kernel
theorem let_ev {c : Int} (h0 : 0 ≤ c) (h1 : c ≤ 255) : Ev (fun k => class_Letter.f k c) (letV c) ∧ ((letV c).2 = 0 ∨ letV c = ([], 70)) ∧ (letV c).1.length ≤ 700 := by
  have h := List.all_eq_true.1 lets_ok c.toNat (List.mem_range.2 (by omega))
  rw [show ((c.toNat : Nat) : Int) = c by omega] at h
  unfold letOk at h
  unfold letV
  cases hc : class_Letter.f 90 c with
  | none => rw [hc] at h; cases h
  | some a =>
    rw [hc] at h
    simp only [Bool.and_eq_true, Bool.or_eq_true, decide_eq_true_eq, List.isEmpty_iff] at h
    obtain ⟨a1, a2⟩ := a
    refine ⟨Ev.of (fun k => class_Letter.mono _ k) hc, ?_, h.2⟩
    rcases h.1 with h | h
    · exact .inl h
    · exact .inr (Prod.ext h.2 h.1)
/-- What a name stands for, the sign for what it lacks ahead or not. -/
def turnV (l : List S105) (s : List UInt8) : List (Int × Int) × Int := if s.head? = some 94 then lackV l ⟨⟨s.tail⟩⟩ else findV normL (l.map ofNm) ⟨⟨s⟩⟩
theorem find_small {l : List S105} (h : tabOk l = true) (s : ByteArray) : (findV normL (l.map ofNm) s).1.length ≤ 1000 := by
  obtain ⟨_, hg⟩ := good_nm (tab_good h).1
  unfold findV
  cases hf : (l.map ofNm).find? (isNm s) with
  | none => simp
  | some x =>
    have h1 := (hg x (List.mem_of_find?_eq_some hf)).2.1
    have h2 := normL_len (piecesV x.2)
    have h3 : (piecesV x.2).length = splitN x.2 := by unfold piecesV; rw [List.length_map, split_len]
    dsimp only
    omega
theorem turn_ev {l : List S105} (h : tabOk l = true) (s : List UInt8) : Ev (fun k => class_turned.f k l ⟨⟨s⟩⟩) ((turnV l s).1.map toRg, (turnV l s).2) := by
  unfold turnV
  by_cases e : s.head? = some 94
  · rw [if_pos e]
    cases s with
    | nil => cases e
    | cons c t =>
      obtain rfl : c = 94 := by simpa using e
      have := turned_caret h ⟨⟨t⟩⟩
      rwa [caret_app] at this
  · rw [if_neg e]
    exact turned_plain h (by unfold caret; exact beq_eq_false_iff_ne.mpr e)
theorem turn_fact {l : List S105} (h : tabOk l = true) (s : List UInt8) : Nrm (turnV l s).1 ∧ (turnV l s).1.length ≤ 1001 ∧ ((turnV l s).2 = 0 ∨ turnV l s = ([], 70)) := by
  unfold turnV
  split
  · obtain ⟨h1, h2, h3⟩ := find_fact h ⟨⟨s.tail⟩⟩
    have h4 := find_small h ⟨⟨s.tail⟩⟩
    unfold lackV
    split
    · exact ⟨notL_nrm _, by have := notL_len (findV normL (l.map ofNm) ⟨⟨s.tail⟩⟩).1; dsimp only; omega, .inl rfl⟩
    · exact ⟨Nrm.nil, by simp, .inr rfl⟩
  · obtain ⟨h1, h2, h3⟩ := find_fact h ⟨⟨s⟩⟩
    exact ⟨h1, by have := find_small h ⟨⟨s⟩⟩; omega, h3⟩
def colTab : List S105 := (class_colons.f).getD []
def proTab : List S105 := (class_properties.f).getD []
theorem col_tab : class_colons.f = some colTab ∧ tabOk colTab = true := ⟨rfl, by decide +kernel⟩
theorem pro_tab : class_properties.f = some proTab ∧ tabOk proTab = true := ⟨rfl, by decide +kernel⟩
theorem col_ev (s : List UInt8) : Ev (fun k => class_Colon.f k ⟨⟨s⟩⟩) ((turnV colTab s).1.map toRg, (turnV colTab s).2) := by
  obtain ⟨K, hK⟩ := turn_ev col_tab.2 s
  exact ⟨K, fun k hk => by
    show class_Colon.f k _ = _
    unfold class_Colon.f
    rw [col_tab.1, Option.bind_some, show class_turned.f k colTab _ = _ from hK k hk]
    rfl⟩
theorem pro_ev (s : List UInt8) : Ev (fun k => class_Property.f k ⟨⟨s⟩⟩) ((turnV proTab s).1.map toRg, (turnV proTab s).2) := by
  obtain ⟨K, hK⟩ := turn_ev pro_tab.2 s
  exact ⟨K, fun k hk => by
    show class_Property.f k _ = _
    unfold class_Property.f
    rw [pro_tab.1, Option.bind_some, show class_turned.f k proTab _ = _ from hK k hk]
    rfl⟩
/-- A property: whether turned round, its name, the bytes it takes. -/
def proV (neg : Bool) (nm : List UInt8) (n : Int) : List S36 × Int × Int :=
  if (turnV proTab nm).2 = 0 then ((if neg then notL (turnV proTab nm).1 else (turnV proTab nm).1).map toRg, n, 0) else ([], 0, 70)
def propV (neg : Bool) : List UInt8 → List S36 × Int × Int
  | [] => ([], 0, 82)
  | d :: v => if (d.toNat : Int) = 123 then (match (cutL 125 v).2 with
      | none => ([], 0, 82)
      | some _ => proV neg (cutL 125 v).1 (((cutL 125 v).1.length : Int) + 4))
    else if letB d.toNat = true then proV neg [d] 3 else ([], 0, 70)
def isLet (c : Int) : Bool := decide (c = 100 ∨ c = 115 ∨ c = 119 ∨ c = 68 ∨ c = 83 ∨ c = 87)
/-- An escape of a set. -/
def setV : List UInt8 → List S36 × Int × Int
  | [] => ([], 0, 3)
  | [c] => if (c.toNat : Int) = 92 then ([], 0, 5) else ([], 0, 3)
  | c :: d :: t => if (c.toNat : Int) = 92 then (if isLet d.toNat = true then ((letV d.toNat).1, 2, (letV d.toNat).2) else if (d.toNat : Int) = 112 ∨ (d.toNat : Int) = 80 then propV (decide ((d.toNat : Int) = 80)) t else ([], 0, 5)) else ([], 0, 3)
theorem proj_ev (s : List UInt8) (d : UInt8) (neg : Bool) (hb : bt ⟨⟨s⟩⟩ 1 = (d.toNat : Int)) (h1 : 1 < s.length) (hd : neg = decide ((d.toNat : Int) = 80)) (nm : List UInt8) (n : Int) : Ev (fun k => bracket_property.j0 k ⟨⟨s⟩⟩ n ⟨⟨nm⟩⟩) (proV neg nm n) := by
  obtain ⟨K, hK⟩ := pro_ev nm
  obtain ⟨f1, f2, f3⟩ := turn_fact pro_tab.2 nm
  obtain ⟨K2, hK2⟩ := not_ev ((turnV proTab nm).1.map toRg) (by rw [List.length_map]; omega)
  refine ⟨K + K2 + 1, fun k hk => ?_⟩
  obtain ⟨m, rfl⟩ : ∃ m, k = m + 1 := ⟨k - 1, by omega⟩
  have q1 : class_Property.f m _ = _ := hK m (by omega)
  have q2 : ranges_Not.f m _ = _ := hK2 m (by omega)
  rw [map_forth] at q2
  show bracket_property.j0 (m + 1) _ _ _ = _
  rw [bracket_property.j0, q1, Option.bind_some]
  unfold proV
  rcases f3 with f3 | f3
  · rw [if_pos f3, if_pos f3, sz, if_pos (by omega), hb]
    by_cases e : (d.toNat : Int) = 80
    · rw [if_pos e, q2, Option.bind_some, hd, decide_eq_true e, if_pos rfl]
    · rw [if_neg e, hd, decide_eq_false e, if_neg (by decide)]
  · rw [f3]
    rfl
theorem ex_list (l : List UInt8) (a b : Nat) : (ByteArray.mk ⟨l⟩).extract a b = ⟨⟨(l.drop a).take (b - a)⟩⟩ := by
  apply ByteArray.ext
  rw [ByteArray.data_extract]
  apply Array.ext'
  rw [Array.toList_extract, List.extract_eq_take_drop]
theorem app_list (a b : List UInt8) : (ByteArray.mk ⟨a⟩) ++ (ByteArray.mk ⟨b⟩) = ⟨⟨a ++ b⟩⟩ := by
  apply ByteArray.ext
  rw [ByteArray.data_append]
  apply Array.ext'
  simp
theorem idx_cons {b c : UInt8} {l : List UInt8} (h : b ≠ c) : Lib.indexByte (b :: l) c = if Lib.indexByte l c = -1 then -1 else Lib.indexByte l c + 1 := by
  rw [Lib.indexByte, if_neg (by simpa using h)]
  by_cases e : Lib.indexByte l c = -1
  · rw [if_pos (by simpa using e), if_pos e]
  · rw [if_neg (by simpa using e), if_neg e]
theorem prop_ev (c d : UInt8) (t : List UInt8) (neg : Bool) (hn : neg = decide ((d.toNat : Int) = 80)) (hs : (c :: d :: t).length ≤ 1000000) (hc : c ≠ 125) (hd : d ≠ 125) : Ev (fun k => bracket_property.f k ⟨⟨c :: d :: t⟩⟩) (propV neg t) := by
  have z := sz (c :: d :: t)
  have hb1 : bt ⟨⟨c :: d :: t⟩⟩ 1 = (d.toNat : Int) := (bt_drop (l := c :: d :: t) (i := 1) rfl).1
  have hj := proj_ev (c :: d :: t) d neg hb1 (by simp) hn
  cases t with
  | nil => exact ev_const fun k => by unfold bracket_property.f; rw [z, if_pos (by rfl)]; rfl
  | cons f v =>
    have hb2 : bt ⟨⟨c :: d :: f :: v⟩⟩ 2 = (f.toNat : Int) := (bt_drop (l := c :: d :: f :: v) (i := 2) rfl).1
    have hl : ((c :: d :: f :: v).length : Int) = v.length + 3 := by simp only [List.length_cons]; omega
    have h0 : ∀ k, bracket_property.f k ⟨⟨c :: d :: f :: v⟩⟩ = if (f.toNat : Int) = 123 then (if Lib.indexByte (c :: d :: f :: v) 125 < 0 then some ([], 0, 82) else if 3 ≤ Lib.indexByte (c :: d :: f :: v) 125 then (if Lib.indexByte (c :: d :: f :: v) 125 ≤ ((c :: d :: f :: v).length : Int) then bracket_property.j0 k ⟨⟨c :: d :: f :: v⟩⟩ (wrap64 (Lib.indexByte (c :: d :: f :: v) 125 + 1)) ((ByteArray.mk ⟨c :: d :: f :: v⟩).extract 3 (Lib.indexByte (c :: d :: f :: v) 125).toNat) else none) else none)
        else if letB f.toNat = true then bracket_property.j0 k ⟨⟨c :: d :: f :: v⟩⟩ 3 ((ByteArray.mk ⟨c :: d :: f :: v⟩).extract 2 3) else some ([], 0, 70) := fun k => by
      unfold bracket_property.f
      rw [z, if_neg (by omega), if_pos (by omega), if_pos (by omega), if_pos (by omega), hb2, letter_f]
      rfl
    simp only [propV]
    by_cases e : (f.toNat : Int) = 123
    · rw [if_pos e]
      have hf : f = 123 := u8_eq (n := 123) e (by omega)
      have hix : Lib.indexByte (c :: d :: f :: v) 125 = if Lib.indexByte v 125 = -1 then -1 else Lib.indexByte v 125 + 3 := by
        subst hf
        rw [idx_cons hc, idx_cons hd, idx_cons (show (123 : UInt8) ≠ 125 by decide)]
        rcases cutL_spec 125 v with ⟨h1, _⟩ | ⟨i, h1, _⟩
        · rw [h1]; decide
        · rw [h1]
          repeat' split
          all_goals omega
      rcases cutL_spec 125 v with ⟨h1, h2⟩ | ⟨i, h1, h2⟩
      · rw [h2]
        rw [h1, if_pos rfl] at hix
        exact ev_const fun k => by rw [h0, if_pos e, hix, if_pos (by omega)]
      · rw [h2]
        rw [h1, if_neg (by omega)] at hix
        have hlt := index_lt v 125
        rw [h1] at hlt
        have hn := hj (v.take i) ((i : Int) + 4)
        dsimp only
        rw [show ((v.take i).length : Int) = i by rw [List.length_take]; omega]
        refine Ev.congr (fun k => ?_) hn
        rw [h0, if_pos e, hix, if_neg (by omega), if_pos (by omega), if_pos (by omega), wr (x := (i : Int) + 3 + 1) (y := (i : Int) + 4) (by omega) (by omega) (by omega), show ((i : Int) + 3).toNat = i + 3 by omega, ex_list]
        rw [show i + 3 - 3 = i by omega]
        rfl
    · rw [if_neg e]
      by_cases e2 : letB f.toNat = true
      · rw [if_pos e2]
        exact Ev.congr (fun k => by rw [h0, if_neg e, if_pos e2, ex_list]; rfl) (hj [f] 3)
      · rw [if_neg e2]
        exact ev_const fun k => by rw [h0, if_neg e, if_neg e2]
/-- The program's answer for an escape of a set. -/
theorem set_ev (s : List UInt8) (hs : s.length ≤ 1000000) : Ev (fun k => bracket_Set.f k ⟨⟨s⟩⟩) (setV s) := by
  have z := sz s
  have bad : ∀ k, bracket_Set.j0 (k + 1) ⟨⟨s⟩⟩ true = some ([], 0, 3) := fun k => by rw [bracket_Set.j0, if_pos rfl]
  match s, z, hs, bad with
  | [], z, _, bad => exact Ev.congr (f := fun k => bracket_Set.j0 k ⟨⟨[]⟩⟩ true) (fun k => by unfold bracket_Set.f; rw [tl]; rfl) (Ev.step bad (Ev.now _))
  | c :: t, z, hs, bad =>
    have hb : bt ⟨⟨c :: t⟩⟩ 0 = (c.toNat : Int) := (bt_drop (l := c :: t) (i := 0) rfl).1
    have h00 : ∀ k, bracket_Set.f k ⟨⟨c :: t⟩⟩ = bracket_Set.j0 k ⟨⟨c :: t⟩⟩ ((c.toNat : Int) != 92) := fun k => by
      unfold bracket_Set.f
      rw [tl, if_neg (by simp), z, if_pos (by simp only [List.length_cons]; omega), hb]
    refine Ev.congr h00 ?_
    by_cases e : (c.toNat : Int) = 92
    · rw [show ((c.toNat : Int) != 92) = false by rw [e]; rfl]
      cases t with
      | nil => exact Ev.step (f := fun _ => some ([], 0, 5)) (fun k => by rw [bracket_Set.j0, if_neg (by decide), z, if_pos (by simp)]) (by simp only [setV]; rw [if_pos e]; exact Ev.now _)
      | cons d u =>
        have hd := u8_in d
        have hb1 : bt ⟨⟨c :: d :: u⟩⟩ 1 = (d.toNat : Int) := (bt_drop (l := c :: d :: u) (i := 1) rfl).1
        have hl : 1 < ((c :: d :: u).length : Int) := by simp only [List.length_cons]; omega
        obtain ⟨hlet, _, _⟩ := let_ev hd.1 hd.2
        have hle : Ev (fun k => (class_Letter.f k (d.toNat : Int)).bind fun bt => some (bt.1, (2 : Int), bt.2)) ((letV d.toNat).1, 2, (letV d.toNat).2) := Ev.bind hlet (Ev.now _)
        have j1t : Ev (fun k => bracket_Set.j1 k ⟨⟨c :: d :: u⟩⟩ d.toNat true) ((letV d.toNat).1, 2, (letV d.toNat).2) := Ev.step (fun k => by rw [bracket_Set.j1, if_pos rfl, z, if_pos hl, hb1]) hle
        have j2t : Ev (fun k => bracket_Set.j2 k ⟨⟨c :: d :: u⟩⟩ d.toNat true) ((letV d.toNat).1, 2, (letV d.toNat).2) := Ev.step (fun k => by rw [bracket_Set.j2, if_pos rfl, z, if_pos hl, hb1]) hle
        have h1 : ∀ k, bracket_Set.j0 (k + 1) ⟨⟨c :: d :: u⟩⟩ false = bracket_Set.j1 k ⟨⟨c :: d :: u⟩⟩ d.toNat (decide ((d.toNat : Int) = 100 ∨ (d.toNat : Int) = 115 ∨ (d.toNat : Int) = 119)) := fun k => by
          rw [bracket_Set.j0, if_neg (by decide), z, if_neg (by omega), if_pos hl, hb1]
          by_cases g1 : (d.toNat : Int) = 100
          · rw [if_pos g1, g1]; rfl
          by_cases g2 : (d.toNat : Int) = 115
          · rw [if_neg g1, if_pos g2, g2]; rfl
          rw [if_neg g1, if_neg g2]
          congr 1
          rw [Bool.eq_iff_iff]
          simp only [beq_iff_eq, decide_eq_true_eq]
          omega
        have h2 : ∀ k, bracket_Set.j1 (k + 1) ⟨⟨c :: d :: u⟩⟩ d.toNat false = bracket_Set.j2 k ⟨⟨c :: d :: u⟩⟩ d.toNat (decide ((d.toNat : Int) = 68 ∨ (d.toNat : Int) = 83 ∨ (d.toNat : Int) = 87)) := fun k => by
          rw [bracket_Set.j1, if_neg (by decide)]
          by_cases g1 : (d.toNat : Int) = 68
          · rw [if_pos g1, g1]; rfl
          by_cases g2 : (d.toNat : Int) = 83
          · rw [if_neg g1, if_pos g2, g2]; rfl
          rw [if_neg g1, if_neg g2]
          congr 1
          rw [Bool.eq_iff_iff]
          simp only [beq_iff_eq, decide_eq_true_eq]
          omega
        have h3 : ∀ k, bracket_Set.j2 (k + 1) ⟨⟨c :: d :: u⟩⟩ d.toNat false = bracket_Set.j3 k ⟨⟨c :: d :: u⟩⟩ (decide ((d.toNat : Int) = 112 ∨ (d.toNat : Int) = 80)) := fun k => by
          rw [bracket_Set.j2, if_neg (by decide)]
          by_cases g1 : (d.toNat : Int) = 112
          · rw [if_pos g1, g1]; rfl
          rw [if_neg g1]
          congr 1
          rw [Bool.eq_iff_iff]
          simp only [beq_iff_eq, decide_eq_true_eq]
          omega
        simp only [setV]
        rw [if_pos e]
        refine Ev.step h1 ?_
        by_cases a1 : (d.toNat : Int) = 100 ∨ (d.toNat : Int) = 115 ∨ (d.toNat : Int) = 119
        · rw [decide_eq_true a1, if_pos (show isLet d.toNat = true from decide_eq_true (by omega))]
          exact j1t
        rw [decide_eq_false a1]
        refine Ev.step h2 ?_
        by_cases a2 : (d.toNat : Int) = 68 ∨ (d.toNat : Int) = 83 ∨ (d.toNat : Int) = 87
        · rw [decide_eq_true a2, if_pos (show isLet d.toNat = true from decide_eq_true (by omega))]
          exact j2t
        rw [decide_eq_false a2, if_neg (show ¬ isLet d.toNat = true from by unfold isLet; rw [decide_eq_true_eq]; omega)]
        refine Ev.step h3 ?_
        by_cases a3 : (d.toNat : Int) = 112 ∨ (d.toNat : Int) = 80
        · rw [decide_eq_true a3, if_pos a3]
          have hne : ∀ x : UInt8, (x.toNat : Int) ≠ 125 → x ≠ 125 := fun x hx h => hx (by rw [h]; rfl)
          refine Ev.step (f := fun k => (bracket_property.f k ⟨⟨c :: d :: u⟩⟩).bind fun bt => some (bt.1, bt.2.1, bt.2.2)) (fun k => by rw [bracket_Set.j3, if_pos rfl]) (Ev.bind (prop_ev c d u _ rfl hs (hne c (by omega)) (hne d (by omega))) (Ev.now _))
        · rw [decide_eq_false a3, if_neg a3]
          exact Ev.step (fun k => by rw [bracket_Set.j3, if_neg (by decide)]) (Ev.now _)
    · rw [show ((c.toNat : Int) != 92) = true from bne_iff_ne.mpr e]
      cases t with
      | nil => simp only [setV]; rw [if_neg e]; exact Ev.step bad (Ev.now _)
      | cons d u => simp only [setV]; rw [if_neg e]; exact Ev.step bad (Ev.now _)
theorem wrap_to {x y : Int} (e : x = y) (h0 : -9223372036854775808 ≤ y) (h1 : y ≤ 9223372036854775807) : wrap64 x = y := by
  subst e
  exact wrap_in h0 h1
theorem width_f (k : Nat) (r : Int) : utf_Width.f (k + 1) r = some (widthF r : Int) := by
  simp only [utf_Width.f, utf_Width.j0, widthF]
  by_cases h1 : r < 0
  · simp [h1]
  · by_cases h2 : r > 1114111
    · simp [h1, h2]
    · by_cases h3 : r ≥ 55296
      · by_cases h4 : r ≤ 57343
        · simp [h1, h2, h3, h4]
        · have h5 : ¬ r ≤ 127 := by omega
          have h6 : ¬ r ≤ 2047 := by omega
          by_cases h7 : r ≤ 65535 <;> simp [h1, h2, h3, h4, h5, h6, h7]
      · have h4 : ¬ (r < 0 ∨ r > 1114111 ∨ (55296 ≤ r ∧ r ≤ 57343)) := by omega
        rw [if_neg h1, if_neg h2, if_neg h3, if_neg h4, if_neg (by decide)]
        by_cases h5 : r ≤ 127
        · simp [h5]
        · by_cases h6 : r ≤ 2047
          · simp [h5, h6]
          · by_cases h7 : r ≤ 65535 <;> simp [h5, h6, h7]
theorem long_fv (k : Nat) (b : Int) : utf_long.f (k + 2) b = some (longV b : Int) := by
  simp only [utf_long.f, utf_long.j0, utf_long.j1, longV]
  by_cases h1 : b ≤ 127
  · simp [h1]
  · by_cases h2 : b ≥ 194
    · by_cases h3 : b < 224
      · simp [h1, h2, h3]
      · have g : ¬ (194 ≤ b ∧ b < 224) := by omega
        have h4 : b ≥ 224 := by omega
        rw [if_neg h1, if_pos h2, if_neg h1, if_neg g, if_neg (by simpa using h3), if_pos h4]
        by_cases h5 : b < 240
        · simp [h4, h5]
        · have g2 : ¬ (224 ≤ b ∧ b < 240) := by omega
          have h6 : b ≥ 240 := by omega
          rw [if_neg (by simpa using h5), if_pos h6, if_neg g2]
          by_cases h7 : b < 245
          · simp [h6, h7]
          · simp [h7]
    · have g1 : ¬ (194 ≤ b ∧ b < 224) := by omega
      have g2 : ¬ (224 ≤ b ∧ b < 240) := by omega
      have g3 : ¬ (240 ≤ b ∧ b < 245) := by omega
      rw [if_neg h1, if_neg h2, if_neg h1, if_neg g1, if_neg g2, if_neg g3, if_neg (by decide), if_neg (by omega), if_neg (by decide), if_neg (by omega)]
      rfl
theorem dec_l0 (s : ByteArray) (n : Nat) (hs : n ≤ s.size) (hn : n ≤ 4) : ∀ (d : Nat) (x : Int) (i m : Nat), i + d = n → 1 ≤ i → m + d ≤ 3 → 0 ≤ x → x < 128 * 64 ^ m → Ev (fun k => utf_Decode.l0 k s x n i) (decL s n d x i)
  | 0, x, i, m, hi, h1, hm, h0, hx => by
    refine ⟨2, fun k hk => ?_⟩
    obtain ⟨k, rfl⟩ : ∃ j, k = j + 2 := ⟨k - 2, by omega⟩
    simp only [utf_Decode.l0, decL]
    rw [if_neg (by omega), width_f]
    simp only [Option.bind_some]
    by_cases h : widthF x = n
    · rw [if_pos (by omega), if_pos h]
    · rw [if_neg (by omega), if_neg h]
  | d + 1, x, i, m, hi, h1, hm, h0, hx => by
    have hb := byteI_in s i
    have hx9 : x ≤ 1000000000 := by
      have : m = 0 ∨ m = 1 ∨ m = 2 := by omega
      rcases this with rfl | rfl | rfl <;> omega
    have hstep : ∀ k, utf_Decode.l0 (k + 1) s x n i = if 128 ≤ byteI s i ∧ byteI s i ≤ 191 then utf_Decode.l0 k s (x * 64 + byteI s i % 64) n ((i + 1 : Nat) : Int) else some (-1, 1) := by
      intro k
      simp only [utf_Decode.l0]
      rw [if_pos (by omega), if_pos (by omega), if_pos (by omega), bt_byteI]
      by_cases h : 128 ≤ byteI s i ∧ byteI s i ≤ 191
      · rw [if_pos ((and192_iff hb).2 h), if_pos h, and63_eq hb, wrap_in (x := x * 64) (by omega) (by omega), wrap_in (x := byteI s i % 64) (by omega) (by omega), or_six h0 hx9 (by omega) (by omega), wrap_to (x := (i : Int) + 1) (y := ((i + 1 : Nat) : Int)) (by omega) (by omega) (by omega)]
      · rw [if_neg (fun g => h ((and192_iff hb).1 g)), if_neg h]
    unfold decL
    by_cases h : 128 ≤ byteI s i ∧ byteI s i ≤ 191
    · rw [if_pos h]
      refine Ev.step (fun k => by rw [hstep k, if_pos h]) (dec_l0 s n hs hn d _ (i + 1) (m + 1) (by omega) (by omega) (by omega) (by omega) ?_)
      have : m = 0 ∨ m = 1 ∨ m = 2 := by omega
      rcases this with rfl | rfl | rfl <;> omega
    · rw [if_neg h]
      exact Ev.step (fun k => by rw [hstep k, if_neg h]) (Ev.now _)
theorem dec_ev (s : ByteArray) : Ev (fun k => utf_Decode.f k s) (decV s) := by
  unfold decV utf_Decode.f
  by_cases h0 : s.size = 0
  · have e : s.toList = ([] : List UInt8) := by
      rw [ByteArray.toList_eq]
      exact List.length_eq_zero_iff.1 (by simpa using h0)
    rw [if_pos h0]
    simp only [if_pos e]
    exact Ev.now _
  · rw [if_neg h0]
    have e : ¬ s.toList = ([] : List UInt8) := by
      intro e
      rw [ByteArray.toList_eq] at e
      have := congrArg List.length e
      rw [Array.length_toList] at this
      exact h0 this
    simp only [if_neg e, if_pos (show 0 < (s.size : Int) by omega)]
    have hb := byteI_in s 0
    have hbt : bt s 0 = byteI s 0 := bt_byteI s 0
    rw [hbt]
    refine Ev.bind (a := (longV (byteI s 0) : Int)) ⟨2, fun k hk => by obtain ⟨k, rfl⟩ : ∃ j, k = j + 2 := ⟨k - 2, by omega⟩; exact long_fv k _⟩ ?_
    by_cases h1 : longV (byteI s 0) = 0
    · rw [if_pos (.inl h1)]
      simp only [if_pos (show ((longV (byteI s 0) : Nat) : Int) = 0 by omega)]
      exact Ev.step (fun k => by simp only [utf_Decode.j0]; rfl) (Ev.now _)
    · simp only [if_neg (show ¬ ((longV (byteI s 0) : Nat) : Int) = 0 by omega)]
      by_cases h2 : s.size < longV (byteI s 0)
      · rw [if_pos (.inr h2)]
        refine Ev.step (fun k => by simp only [utf_Decode.j0]; rw [if_pos (by simp; omega)]) (Ev.now _)
      · rw [if_neg (by omega)]
        have hx := xor_lead hb h1
        have hl4 := longV_le (byteI s 0)
        refine Ev.step (f := fun k => utf_Decode.l0 k s (byteI s 0 - leadV (longV (byteI s 0))) (longV (byteI s 0)) 1) (fun k => ?_) (dec_l0 s _ (by omega) hl4 _ _ 1 0 (by omega) (by omega) (by omega) hx.2.1 (by omega))
        simp only [utf_Decode.j0]
        rw [if_neg (by simp; omega), if_pos (by omega)]
        rw [show utf_lead.f ((longV (byteI s 0) : Nat) : Int) = some (leadV (longV (byteI s 0))) by unfold utf_lead.f; rw [if_pos (by omega), Int.toNat_natCast]]
        simp only [Option.bind_some]
        rw [hbt, hx.1, wrap_in (x := byteI s 0 - leadV (longV (byteI s 0))) (by omega) (by omega)]
/-- A number: an escape, or a rune. -/
def oneV : List UInt8 → Int × Int × Int
  | [] => (0, 0, 82)
  | c :: t => if (c.toNat : Int) = 92 then escV (c :: t) else if (decV ⟨⟨c :: t⟩⟩).1 < 0 then (0, 0, 3) else ((decV ⟨⟨c :: t⟩⟩).1, (decV ⟨⟨c :: t⟩⟩).2, 0)
theorem one_ev (s : List UInt8) (hs : s.length ≤ 1000000) : Ev (fun k => bracket_one.f k ⟨⟨s⟩⟩) (oneV s) := by
  cases s with
  | nil => exact ev_const fun k => by unfold bracket_one.f; rw [tl, if_pos rfl]; rfl
  | cons c t =>
    have z := sz (c :: t)
    have hb : bt ⟨⟨c :: t⟩⟩ 0 = (c.toNat : Int) := (bt_drop (l := c :: t) (i := 0) rfl).1
    have h0 : ∀ k, bracket_one.f k ⟨⟨c :: t⟩⟩ = if (c.toNat : Int) = 92 then (bracket_Number.f k ⟨⟨c :: t⟩⟩).bind fun bt => some (bt.1, bt.2.1, bt.2.2) else (utf_Decode.f k ⟨⟨c :: t⟩⟩).bind fun bt => if bt.1 < 0 then some (0, 0, 3) else some (bt.1, bt.2, 0) := fun k => by
      unfold bracket_one.f
      rw [tl, if_neg (by simp), z, if_pos (by simp only [List.length_cons]; omega), hb]
    refine Ev.congr h0 ?_
    simp only [oneV]
    by_cases e : (c.toNat : Int) = 92
    · simp only [if_pos e]
      exact Ev.bind (num_ev (c :: t) hs) (Ev.now _)
    · simp only [if_neg e]
      refine Ev.bind (dec_ev ⟨⟨c :: t⟩⟩) (ev_const fun k => ?_)
      split <;> rfl
theorem long_out : ∀ (l : List UInt8) (i : Nat) (r : Int), 0 ≤ r → r < 16 ^ (i - 3) → 3 ≤ i → (hexLongV l i r).2.2 = 0 → 0 ≤ (hexLongV l i r).1 ∧ (hexLongV l i r).1 ≤ 1114111 ∧ (i : Int) + 1 ≤ (hexLongV l i r).2.1 ∧ (hexLongV l i r).2.1 ≤ (i : Int) + l.length
  | [], i, r, h0, h1, h3, h => by simp [hexLongV] at h
  | c :: t, i, r, h0, h1, h3, h => by
    have hd := digV_in c.toNat
    unfold hexLongV at h ⊢
    split at h
    · rename_i g
      rw [if_pos g]
      simp only [List.length_cons]
      omega
    split at h
    · simp at h
    · rename_i g1 g2
      rw [if_neg g1, if_neg g2]
      have := long_out t (i + 1) (16 * r + digV c.toNat) (by omega) (by rw [show i + 1 - 3 = (i - 3) + 1 by omega, Int.pow_succ]; omega) (by omega) h
      simp only [List.length_cons]
      omega
theorem short_out (l : List UInt8) (h : (hexShortV l).2.2 = 0) : 0 ≤ (hexShortV l).1 ∧ (hexShortV l).1 ≤ 255 ∧ (hexShortV l).2.1 = 4 ∧ 2 ≤ l.length := by
  match l with
  | [] => simp [hexShortV] at h
  | [a] => simp only [hexShortV] at h; split at h <;> simp at h
  | a :: b :: t =>
    have h1 := digV_in a.toNat
    have h2 := digV_in b.toNat
    simp only [hexShortV] at h ⊢
    split at h
    · simp at h
    split at h
    · simp at h
    · rename_i g1 g2
      rw [if_neg g1, if_neg g2]
      simp only [List.length_cons]
      exact ⟨by omega, by omega, trivial, by omega⟩
theorem plain_in {c v : Int} (h : plainV c = some v) : 0 ≤ v ∧ v ≤ 255 := by
  unfold plainV at h
  repeat' split at h
  all_goals first
    | (cases h; done)
    | (obtain rfl := Option.some.inj h; omega)
theorem esc_out (l : List UInt8) (h : (escV l).2.2 = 0) : 0 ≤ (escV l).1 ∧ (escV l).1 ≤ 1114111 ∧ 2 ≤ (escV l).2.1 ∧ (escV l).2.1 ≤ l.length := by
  match l with
  | [] => simp [escV] at h
  | [c] => simp only [escV] at h; split at h <;> simp at h
  | c :: d :: t =>
    have hd := u8_in d
    simp only [escV, List.length_cons] at h ⊢
    by_cases e : (c.toNat : Int) = 92
    · rw [if_pos e] at h ⊢
      cases hp : plainV (d.toNat : Int) with
      | some v => have := plain_in hp; dsimp only; omega
      | none =>
        rw [hp] at h
        dsimp only at h ⊢
        by_cases e2 : (d.toNat : Int) = 120
        · rw [if_pos e2] at h ⊢
          by_cases e3 : t.head? = some 123
          · rw [if_pos e3] at h ⊢
            have := long_out t.tail 3 0 (by omega) (by decide) (by omega) h
            have hl : t.tail.length + 1 = t.length := by cases t with | nil => cases e3 | cons _ _ => rfl
            omega
          · rw [if_neg e3] at h ⊢
            have := short_out t h
            omega
        · rw [if_neg e2] at h ⊢
          split at h
          · simp at h
          · rename_i g
            rw [if_neg g]
            dsimp only
            omega
    · rw [if_neg e] at h
      simp at h
theorem dec_out (l : List UInt8) (h : ¬ (decV ⟨⟨l⟩⟩).1 < 0) : 0 ≤ (decV ⟨⟨l⟩⟩).1 ∧ (decV ⟨⟨l⟩⟩).1 ≤ 1114111 ∧ 1 ≤ (decV ⟨⟨l⟩⟩).2 ∧ (decV ⟨⟨l⟩⟩).2 ≤ l.length := by
  have z := sz l
  rcases decV_cases ⟨⟨l⟩⟩ with ⟨_, h1⟩ | ⟨_, h1, _⟩ | ⟨r, h1, h2, h3⟩
  · rw [h1] at h; exact absurd (by decide) h
  · rw [h1] at h; exact absurd (by decide) h
  · rw [h3]
    have hw := (width_in (r := r) (by omega)).2
    have := h2.1
    dsimp only
    omega
theorem one_out (l : List UInt8) (h : (oneV l).2.2 = 0) : 0 ≤ (oneV l).1 ∧ (oneV l).1 ≤ 1114111 ∧ 1 ≤ (oneV l).2.1 ∧ (oneV l).2.1 ≤ l.length := by
  cases l with
  | nil => simp [oneV] at h
  | cons c t =>
    simp only [oneV] at h ⊢
    by_cases e : (c.toNat : Int) = 92
    · rw [if_pos e] at h ⊢
      have := esc_out (c :: t) h
      omega
    · rw [if_neg e] at h ⊢
      by_cases e2 : (decV ⟨⟨c :: t⟩⟩).1 < 0
      · rw [if_pos e2] at h; simp at h
      · rw [if_neg e2]
        exact dec_out (c :: t) e2
theorem cutL_len (c : UInt8) : ∀ (s t : List UInt8), (cutL c s).2 = some t → (cutL c s).1.length + 1 ≤ s.length
  | [], t, h => by simp [cutL] at h
  | b :: u, t, h => by
    unfold cutL at h ⊢
    by_cases e : b = c
    · simp only [if_pos e, List.length_nil, List.length_cons]; omega
    · simp only [if_neg e] at h ⊢
      have := cutL_len c u t h
      simp only [List.length_cons]
      omega
theorem pro_out (neg : Bool) (nm : List UInt8) (n : Int) (h : (proV neg nm n).2.2 = 0) : (proV neg nm n).2.1 = n := by
  unfold proV at h ⊢
  split at h
  · rename_i g; rw [if_pos g]
  · simp at h
theorem set_out (l : List UInt8) (h : (setV l).2.2 = 0) : 2 ≤ (setV l).2.1 ∧ (setV l).2.1 ≤ l.length := by
  match l with
  | [] => simp [setV] at h
  | [c] => simp only [setV] at h; split at h <;> simp at h
  | c :: d :: t =>
    simp only [setV, List.length_cons] at h ⊢
    by_cases e : (c.toNat : Int) = 92
    · rw [if_pos e] at h ⊢
      by_cases e1 : isLet d.toNat = true
      · rw [if_pos e1] at h ⊢
        dsimp only
        omega
      · rw [if_neg e1] at h ⊢
        by_cases e2 : (d.toNat : Int) = 112 ∨ (d.toNat : Int) = 80
        · rw [if_pos e2] at h ⊢
          cases t with
          | nil => simp [propV] at h
          | cons f v =>
            simp only [propV, List.length_cons] at h ⊢
            by_cases e3 : (f.toNat : Int) = 123
            · rw [if_pos e3] at h ⊢
              cases hq : (cutL 125 v).2 with
              | none => rw [hq] at h; simp at h
              | some x =>
                rw [hq] at h
                dsimp only at h ⊢
                rw [pro_out _ _ _ h]
                have := cutL_len 125 v x hq
                omega
            · rw [if_neg e3] at h ⊢
              by_cases e4 : letB f.toNat = true
              · rw [if_pos e4] at h ⊢
                rw [pro_out _ _ _ h]
                omega
              · rw [if_neg e4] at h
                simp at h
        · rw [if_neg e2] at h
          simp at h
    · rw [if_neg e] at h
      simp at h
/-- The second half of a span. -/
def spanV (lo n : Int) (v : List UInt8) : List S36 × Int × Int :=
  if (setV v).2.2 ≠ 5 ∧ (setV v).2.2 ≠ 3 then ([], n + 1, 70) else if (oneV v).2.2 ≠ 0 then ([], n + 1, (oneV v).2.2) else if (oneV v).1 < lo then ([], 0, 70) else ([⟨lo, (oneV v).1⟩], n + 1 + (oneV v).2.1, 0)
def tailV (lo n : Int) : List UInt8 → List S36 × Int × Int
  | a :: b :: u => if a = 45 ∧ b ≠ 93 then spanV lo n (b :: u) else ([⟨lo, lo⟩], n, 0)
  | _ => ([⟨lo, lo⟩], n, 0)
abbrev colCut (l : List UInt8) := Lib.cut (l.drop 2) [58, 93]
/-- An item: what it says, how many bytes it has, or where it is wrong. -/
def itemV (l : List UInt8) : List S36 × Int × Int :=
  if l.take 2 = [91, 58] then (if (colCut l).2.2 = true then (if (turnV colTab (colCut l).1).2 = 0 then ((turnV colTab (colCut l).1).1.map toRg, 4 + ((colCut l).1.length : Int), 0) else ([], 0, 70)) else ([], 0, 82))
  else if (setV l).2.2 = 0 then setV l else if (setV l).2.2 ≠ 5 ∧ (setV l).2.2 ≠ 3 then ([], 0, (setV l).2.2) else if (oneV l).2.2 ≠ 0 then ([], 0, (oneV l).2.2) else tailV (oneV l).1 (oneV l).2.1 (l.drop (oneV l).2.1.toNat)
def shiftV (n : Int) (q : List S36 × Int × Int) : List S36 × Int × Int := (q.1, n + q.2.1, q.2.2)
theorem prefix_ev (l : List UInt8) : strings_HasPrefix.f ⟨⟨l⟩⟩ (⟨#[91, 58]⟩ : ByteArray) = some (decide (l.take 2 = [91, 58])) := by
  unfold strings_HasPrefix.f stringslite_HasPrefix.f
  have h1 : (⟨#[91, 58]⟩ : ByteArray).size = 2 := rfl
  have h2 : (⟨#[91, 58]⟩ : ByteArray).toList = [91, 58] := by rw [ByteArray.toList_eq]
  rw [sz, h1]
  by_cases e : (l.length : Int) ≥ ((2 : Nat) : Int)
  · rw [if_pos e, if_pos (by omega), if_pos e, h2, ex_list, tl, Option.bind_some]
    congr 1
    rw [Bool.eq_iff_iff]
    simp
  · rw [if_neg e, decide_eq_false]
    · rfl
    · intro h
      have := congrArg List.length h
      rw [List.length_take] at this
      simp at this
      omega
theorem span_ev (s : List UInt8) (hs : s.length ≤ 1000000) (at_ n : Nat) (lo : Int) (v : List UInt8) (h : s.drop (at_ + n + 1) = v) (hl : at_ + n + 1 ≤ s.length) : Ev (fun k => bracket_span.f k ⟨⟨s⟩⟩ at_ (at_ + n + 1) lo) (shiftV at_ (spanV lo n v)) := by
  have z := sz s
  have hex : (ByteArray.mk ⟨s⟩).extract (at_ + n + 1) (ByteArray.mk ⟨s⟩).size = ⟨⟨v⟩⟩ := by
    rw [z, ex_list, List.take_of_length_le (by rw [List.length_drop]; omega), h]
  have hv : v.length ≤ 1000000 := by rw [← h, List.length_drop]; omega
  have hvl : v.length = s.length - (at_ + n + 1) := by rw [← h, List.length_drop]
  refine Ev.congr (f := fun k => (bracket_Set.f k ⟨⟨v⟩⟩).bind fun q => if q.2.2 ≠ 5 ∧ q.2.2 ≠ 3 then some ([], ((at_ + n + 1 : Nat) : Int), 70) else (bracket_one.f k ⟨⟨v⟩⟩).bind fun p => if p.2.2 ≠ 0 then some ([], ((at_ + n + 1 : Nat) : Int), p.2.2) else if p.1 < lo then some ([], (at_ : Int), 70) else if 0 ≤ p.2.1 ∧ p.2.1 ≤ s.length then some ([⟨lo, p.1⟩], ((at_ + n + 1 : Nat) : Int) + p.2.1, 0) else none) (fun k => by
    unfold bracket_span.f
    rw [if_pos (by omega), hex, z]) ?_
  refine Ev.bind (set_ev v hv) ?_
  unfold spanV shiftV
  have hc : ((at_ + n + 1 : Nat) : Int) = (at_ : Int) + ((n : Int) + 1) := by omega
  simp only [hc]
  by_cases e : (setV v).2.2 ≠ 5 ∧ (setV v).2.2 ≠ 3
  · simp only [if_pos e]
    exact ev_const fun _ => rfl
  · simp only [if_neg e]
    refine Ev.bind (one_ev v hv) (ev_const fun _ => ?_)
    by_cases e2 : (oneV v).2.2 ≠ 0
    · simp only [if_pos e2]
    · simp only [if_neg e2]
      by_cases e3 : (oneV v).1 < lo
      · simp only [if_pos e3, Int.add_zero]
      · simp only [if_neg e3]
        have := one_out v (Decidable.not_not.1 e2)
        rw [if_pos (by omega), Int.add_assoc]
theorem item_ev (s : List UInt8) (hs : s.length ≤ 1000000) (at_ : Nat) (l : List UInt8) (h : s.drop at_ = l) (ha : at_ ≤ s.length) : Ev (fun k => bracket_item.f k ⟨⟨s⟩⟩ at_) (shiftV at_ (itemV l)) := by
  have z := sz s
  have hex : (ByteArray.mk ⟨s⟩).extract at_ (ByteArray.mk ⟨s⟩).size = ⟨⟨l⟩⟩ := by
    rw [z, ex_list, List.take_of_length_le (by rw [List.length_drop]; omega), h]
  have hv : l.length ≤ 1000000 := by rw [← h, List.length_drop]; omega
  have hvl : l.length = s.length - at_ := by rw [← h, List.length_drop]
  have h0 : ∀ k, bracket_item.f k ⟨⟨s⟩⟩ at_ = if l.take 2 = [91, 58] then (if (colCut l).2.2 = true then (class_Colon.f k ⟨⟨(colCut l).1⟩⟩).bind fun q => if q.2 = 0 then some (q.1, (at_ : Int) + 2 + ((colCut l).1.length : Int) + 2, 0) else some ([], (at_ : Int), q.2) else some ([], (at_ : Int), 82))
      else (bracket_Set.f k ⟨⟨l⟩⟩).bind fun q => if q.2.2 = 0 then (if 0 ≤ q.2.1 ∧ q.2.1 ≤ s.length then some (q.1, (at_ : Int) + q.2.1, 0) else none) else if q.2.2 ≠ 5 ∧ q.2.2 ≠ 3 then some ([], (at_ : Int), q.2.2) else
      (bracket_one.f k ⟨⟨l⟩⟩).bind fun p => if p.2.2 ≠ 0 then some ([], (at_ : Int), p.2.2) else if 0 ≤ p.2.1 ∧ p.2.1 ≤ s.length then
        (if (s.length : Int) ≤ (at_ : Int) + p.2.1 + 1 ∨ bt ⟨⟨s⟩⟩ ((at_ : Int) + p.2.1) ≠ 45 ∨ bt ⟨⟨s⟩⟩ ((at_ : Int) + p.2.1 + 1) = 93 then some ([⟨p.1, p.1⟩], (at_ : Int) + p.2.1, 0)
         else bracket_span.f k ⟨⟨s⟩⟩ at_ ((at_ : Int) + p.2.1 + 1).toNat p.1) else none := fun k => by
    unfold bracket_item.f
    rw [if_pos (by omega), hex, prefix_ev, Option.bind_some]
    by_cases e : l.take 2 = [91, 58]
    · have hl2 : 2 ≤ l.length := by
        have := congrArg List.length e
        rw [List.length_take] at this
        simp at this
        omega
      rw [if_pos (decide_eq_true e), if_pos e, sz, if_pos hl2, ex_list, List.take_of_length_le (by rw [List.length_drop]; omega)]
    · rw [if_neg (by simpa using e), if_neg e, z]
      congr 1
      funext q
      congr 2
      congr 1
      funext p
      congr 1
      rw [tl]
      by_cases e2 : l = []
      · rw [if_pos e2]
        subst e2
        simp at hvl
        have : s.length = at_ := by omega
        rw [this]
      · rw [if_neg e2]
  refine Ev.congr h0 ?_
  unfold itemV shiftV
  by_cases e : l.take 2 = [91, 58]
  · simp only [if_pos e]
    by_cases e2 : (colCut l).2.2 = true
    · simp only [if_pos e2]
      refine Ev.bind (col_ev (colCut l).1) (ev_const fun _ => ?_)
      rcases (turn_fact col_tab.2 (colCut l).1).2.2 with e3 | e3
      · simp only [if_pos e3]
        congr 3
        omega
      · rw [e3]
        rfl
    · simp only [if_neg e2, Int.add_zero]
      exact Ev.now _
  · simp only [if_neg e]
    refine Ev.bind (set_ev l hv) ?_
    by_cases e1 : (setV l).2.2 = 0
    · simp only [if_pos e1]
      have := set_out l e1
      refine ev_const fun _ => ?_
      rw [if_pos (by omega), e1]
    · simp only [if_neg e1]
      by_cases e2 : (setV l).2.2 ≠ 5 ∧ (setV l).2.2 ≠ 3
      · simp only [if_pos e2, Int.add_zero]
        exact Ev.now _
      · simp only [if_neg e2]
        refine Ev.bind (one_ev l hv) ?_
        by_cases e3 : (oneV l).2.2 ≠ 0
        · simp only [if_pos e3, Int.add_zero]
          exact Ev.now _
        · simp only [if_neg e3]
          have ho := one_out l (Decidable.not_not.1 e3)
          obtain ⟨n, hn⟩ : ∃ n : Nat, (oneV l).2.1 = n := ⟨(oneV l).2.1.toNat, by omega⟩
          rw [hn]
          generalize (oneV l).1 = lo at ho
          have hnl : n ≤ l.length := by omega
          have hin : 0 ≤ (n : Int) ∧ (n : Int) ≤ s.length := by omega
          simp only [if_pos hin, Int.toNat_natCast]
          have hdr : s.drop (at_ + n) = l.drop n := by rw [← h, List.drop_drop]
          cases hq : l.drop n with
          | nil =>
            have : l.length ≤ n := List.drop_eq_nil_iff.1 hq
            refine ev_const fun _ => ?_
            rw [if_pos (.inl (by omega))]
            rfl
          | cons a u =>
            rw [hq] at hdr
            obtain ⟨hb1, hi1, ht1⟩ := bt_drop hdr
            rw [show ((at_ + n : Nat) : Int) = (at_ : Int) + n by omega] at hb1
            cases u with
            | nil =>
              have hlen := congrArg List.length hdr
              rw [List.length_drop] at hlen
              simp at hlen
              refine ev_const fun _ => ?_
              rw [if_pos (.inl (by omega))]
              rfl
            | cons b v =>
              obtain ⟨hb2, hi2, ht2⟩ := bt_drop ht1
              rw [show ((at_ + n + 1 : Nat) : Int) = (at_ : Int) + n + 1 by omega] at hb2
              simp only [tailV, hb1, hb2]
              by_cases g : a = 45 ∧ b ≠ 93
              · have g2 : ¬ ((s.length : Int) ≤ (at_ : Int) + n + 1 ∨ (a.toNat : Int) ≠ 45 ∨ (b.toNat : Int) = 93) := by
                  intro hh
                  rcases hh with hh | hh | hh
                  · omega
                  · exact hh (by rw [g.1]; rfl)
                  · exact g.2 (u8_eq (n := 93) hh (by omega))
                simp only [if_pos g, if_neg g2]
                rw [show ((at_ : Int) + n + 1).toNat = at_ + n + 1 by omega]
                exact span_ev s hs at_ n lo (b :: v) ht1 (by omega)
              · have g2 : (s.length : Int) ≤ (at_ : Int) + n + 1 ∨ (a.toNat : Int) ≠ 45 ∨ (b.toNat : Int) = 93 := by
                  by_cases ha : a = 45
                  · have hb : b = 93 := Decidable.byContradiction fun hb => g ⟨ha, hb⟩
                    exact .inr (.inr (by rw [hb]; rfl))
                  · exact .inr (.inl fun hh => ha (u8_eq (n := 45) hh (by omega)))
                simp only [if_neg g, if_pos g2]
                exact Ev.now _
def foldB (flags : Int) : Bool := decide (Go.bits .and .i64 flags 1 ≠ 0)
def madeL (neg fold : Bool) (l : List (Int × Int)) : List (Int × Int) := normL (if neg then notL (if fold then closeL l else l) else (if fold then closeL l else l))
theorem bracket_of (t : List UInt8) (hs : t.length ≤ 999998) (flags : Int) (neg : Bool) (hn : neg = decide (t.head? = some 94)) {q : List S36 × Int × Int} (hl0 : Ev (fun k => bracket_Bracket.l0 k ⟨⟨91 :: t⟩⟩ (if neg then 2 else 1) (if neg then 2 else 1) []) q) (hq : q.1.length ≤ 100000) :
    Ev (fun k => bracket_Bracket.f k ⟨⟨91 :: t⟩⟩ flags) (if q.2.2 ≠ 0 then q else ((madeL neg (foldB flags) (q.1.map ofRg)).map toRg, q.2.1 + 1, 0)) := by
  have z := sz (91 :: t)
  have hb : bt ⟨⟨91 :: t⟩⟩ 0 = 91 := (bt_drop (l := 91 :: t) (i := 0) rfl).1
  have hneg : (1 < ((91 :: t : List UInt8).length : Int) ∧ bt ⟨⟨91 :: t⟩⟩ 1 = 94) ↔ t.head? = some 94 := by
    cases t with
    | nil => simp
    | cons d u =>
      have hb1 : bt ⟨⟨91 :: d :: u⟩⟩ 1 = (d.toNat : Int) := (bt_drop (l := 91 :: d :: u) (i := 1) rfl).1
      rw [hb1]
      constructor
      · intro h
        rw [u8_eq (n := 94) h.2 (by omega)]
        rfl
      · intro h
        have hd : d = 94 := by simpa using h
        exact ⟨by simp only [List.length_cons]; omega, by rw [hd]; rfl⟩
  have hFn : neg = true ↔ t.head? = some 94 := by rw [hn, decide_eq_true_eq]
  have h0 : ∀ k, bracket_Bracket.f k ⟨⟨91 :: t⟩⟩ flags = (bracket_Bracket.l0 k ⟨⟨91 :: t⟩⟩ (if neg then 2 else 1) (if neg then 2 else 1) []).bind fun q => if q.2.2 ≠ 0 then some q else (if (Go.bits .and .i64 flags 1) ≠ 0 then fold_Close.f q.1 else some q.1).bind fun a => (if neg = true then ranges_Not.f k a else some a).bind fun b => (ranges_Norm.f k b).bind fun c => some (c, q.2.1 + 1, 0) := fun k => by
    have hiff : (1 < ((91 :: t : List UInt8).length : Int) ∧ bt ⟨⟨91 :: t⟩⟩ 1 = 94) ↔ neg = true := hneg.trans hFn.symm
    unfold bracket_Bracket.f
    rw [z, if_pos (by simp only [List.length_cons]; omega), tl, if_neg (by simp), hb, if_neg (by omega)]
    simp only [hiff]
  refine Ev.congr h0 (Ev.bind hl0 ?_)
  obtain ⟨q1, q2, q3⟩ := q
  dsimp only at hq ⊢
  by_cases e3 : q3 ≠ 0
  · simp only [if_pos e3]
    exact Ev.now _
  · simp only [if_neg e3]
    unfold madeL foldB
    have hcl : (if (Go.bits .and .i64 flags 1) ≠ 0 then fold_Close.f q1 else some q1) = some ((if decide (Go.bits .and .i64 flags 1 ≠ 0) = true then closeL (q1.map ofRg) else q1.map ofRg).map toRg) := by
      by_cases ef : (Go.bits .and .i64 flags 1) ≠ 0
      · rw [if_pos ef, if_pos (decide_eq_true ef)]
        unfold fold_Close.f
        rw [if_pos hq]
      · rw [if_neg ef, if_neg (by rw [decide_eq_true_eq]; exact ef), map_back]
    rw [hcl]
    have hA : (if decide (Go.bits .and .i64 flags 1 ≠ 0) = true then closeL (q1.map ofRg) else q1.map ofRg).length ≤ 200000 := by
      have := close_len (q1.map ofRg)
      split
      · rw [List.length_map] at this; omega
      · rw [List.length_map]; omega
    generalize (if decide (Go.bits .and .i64 flags 1 ≠ 0) = true then closeL (q1.map ofRg) else q1.map ofRg) = A at hA ⊢
    simp only [Option.bind_some]
    cases neg with
    | true =>
      simp only [if_true]
      have hNot := not_ev (A.map toRg) (by rw [List.length_map]; omega)
      rw [map_forth] at hNot
      refine Ev.bind hNot ?_
      have hN := norm_ev ((notL A).map toRg) (by rw [List.length_map]; have := notL_len A; omega)
      rw [map_forth] at hN
      exact Ev.bind hN (Ev.now _)
    | false =>
      simp only [Bool.false_eq_true, if_false, Option.bind_some]
      have hN := norm_ev (A.map toRg) (by rw [List.length_map]; omega)
      rw [map_forth] at hN
      exact Ev.bind hN (Ev.now _)
theorem hexC_dig : ∀ d : Fin 16, digV (hexC d.val).toNat = (d.val : Int) ∧ (hexC d.val).toNat ≠ 125 := by decide
theorem hexC_val {d : Nat} (h : d < 16) : digV (hexC d).toNat = (d : Int) ∧ ((hexC d).toNat : Int) ≠ 125 := by
  obtain ⟨h1, h2⟩ := hexC_dig ⟨d, h⟩
  exact ⟨h1, fun e => (show (hexC d).toNat ≠ 125 from h2) (by omega)⟩
def valF (l : List UInt8) (r : Int) : Int := l.foldl (fun r c => 16 * r + digV c.toNat) r
theorem valF_acc : ∀ (k n : Nat), n < 16 ^ k → ∀ acc : List UInt8, valF (hexAcc n acc) 0 = valF acc n
  | 0, n, h, acc => by
    have : n = 0 := by simpa using h
    subst this
    rw [hexAcc, if_pos rfl]
    rfl
  | k + 1, n, h, acc => by
    rw [hexAcc]
    split
    · rename_i e
      subst e
      rfl
    · rw [valF_acc k (n / 16) (by rw [Nat.pow_succ] at h; omega)]
      show valF acc (16 * ((n / 16 : Nat) : Int) + digV (hexC (n % 16)).toNat) = _
      rw [(hexC_val (show n % 16 < 16 by omega)).1]
      congr 1
      omega
theorem hexAcc_all (P : UInt8 → Prop) (hP : ∀ d, d < 16 → P (hexC d)) : ∀ (k n : Nat), n < 16 ^ k → ∀ acc : List UInt8, (∀ c ∈ acc, P c) → ∀ c ∈ hexAcc n acc, P c
  | 0, n, h, acc, ha => by
    have : n = 0 := by simpa using h
    rw [hexAcc, if_pos this]
    exact ha
  | k + 1, n, h, acc, ha => by
    rw [hexAcc]
    split
    · exact ha
    · refine hexAcc_all P hP k (n / 16) (by rw [Nat.pow_succ] at h; omega) _ (fun c hc => ?_)
      rcases List.mem_cons.1 hc with rfl | hc
      · exact hP _ (by omega)
      · exact ha c hc
theorem hexAcc_ne : ∀ (k n : Nat), n < 16 ^ k → ∀ acc : List UInt8, acc ≠ [] → hexAcc n acc ≠ []
  | 0, n, h, acc, ha => by
    have : n = 0 := by simpa using h
    rw [hexAcc, if_pos this]
    exact ha
  | k + 1, n, h, acc, ha => by
    rw [hexAcc]
    split
    · exact ha
    · exact hexAcc_ne k (n / 16) (by rw [Nat.pow_succ] at h; omega) _ (by simp)
theorem hexT_fact {n : Nat} (h : n ≤ 1114111) : valF (hexT n) 0 = n ∧ (hexT n).length ≤ 6 ∧ hexT n ≠ [] ∧ ∀ c ∈ hexT n, 0 ≤ digV c.toNat ∧ (c.toNat : Int) ≠ 125 := by
  have hP : ∀ d, d < 16 → (0 ≤ digV (hexC d).toNat ∧ ((hexC d).toNat : Int) ≠ 125) := fun d hd => by
    obtain ⟨h1, h2⟩ := hexC_val hd
    exact ⟨by omega, h2⟩
  have hk : n / 16 < 16 ^ 5 := by omega
  unfold hexT
  refine ⟨?_, ?_, hexAcc_ne 5 _ hk _ (by simp), hexAcc_all _ hP 5 _ hk _ (fun c hc => ?_)⟩
  · rw [valF_acc 5 _ hk]
    show 16 * ((n / 16 : Nat) : Int) + digV (hexC (n % 16)).toNat = _
    rw [(hexC_val (show n % 16 < 16 by omega)).1]
    omega
  · have := hexAcc_len 5 (n / 16) [hexC (n % 16)] hk
    simp at this
    omega
  · obtain rfl : c = hexC (n % 16) := by simpa using hc
    exact hP _ (by omega)
theorem long_hex (w : List UInt8) : ∀ (ds : List UInt8) (i : Nat) (r : Int), (∀ c ∈ ds, 0 ≤ digV c.toNat ∧ (c.toNat : Int) ≠ 125) → i + ds.length ≤ 9 → 3 < i + ds.length → valF ds r ≤ 1114111 → hexLongV (ds ++ 125 :: w) i r = (valF ds r, ((i + ds.length : Nat) : Int) + 1, 0)
  | [], i, r, hd, h9, h3, hv => by
    rw [List.nil_append]
    unfold hexLongV
    rw [if_pos ⟨rfl, by simpa using h3, hv⟩]
    simp [valF]
  | c :: ds, i, r, hd, h9, h3, hv => by
    obtain ⟨h1, h2⟩ := hd c (by simp)
    simp only [List.length_cons] at h9 h3 ⊢
    rw [List.cons_append]
    unfold hexLongV
    rw [if_neg (fun h => h2 h.1), if_neg (by omega), long_hex w ds (i + 1) _ (fun x hx => hd x (by simp [hx])) (by omega) (by omega) hv]
    show (valF ds (16 * r + digV c.toNat), _, (0 : Int)) = (valF ds (16 * r + digV c.toNat), _, 0)
    congr 2
    omega
/-- A number written out. -/
def numT (n : Nat) : List UInt8 := 92 :: 120 :: 123 :: (hexT n ++ [125])
theorem numT_esc {n : Nat} (h : n ≤ 1114111) (w : List UInt8) : escV (numT n ++ w) = ((n : Int), ((numT n).length : Int), 0) := by
  obtain ⟨h1, h2, h3, h4⟩ := hexT_fact h
  have hl : 0 < (hexT n).length := List.length_pos_iff.2 h3
  have e : numT n ++ w = 92 :: 120 :: 123 :: (hexT n ++ 125 :: w) := by simp [numT]
  rw [e]
  simp only [escV]
  rw [if_pos (by decide), show plainV (((120 : UInt8).toNat : Nat) : Int) = none from by decide]
  dsimp only
  rw [if_pos (by decide), if_pos (show List.head? (123 :: (hexT n ++ 125 :: w)) = some 123 from rfl)]
  show hexLongV (hexT n ++ 125 :: w) 3 0 = _
  rw [long_hex w (hexT n) 3 0 h4 (by omega) (by omega) (by omega), h1]
  congr 2
  simp only [numT, List.length_cons, List.length_append, List.length_nil]
  omega
theorem numT_set (n : Nat) (w : List UInt8) : setV (numT n ++ w) = ([], 0, 5) := by
  have e : numT n ++ w = 92 :: 120 :: (123 :: (hexT n ++ 125 :: w)) := by simp [numT]
  rw [e]
  simp only [setV]
  rw [if_pos (by decide), if_neg (by decide), if_neg (by decide)]
theorem numT_one {n : Nat} (h : n ≤ 1114111) (w : List UInt8) : oneV (numT n ++ w) = ((n : Int), ((numT n).length : Int), 0) := by
  have he := numT_esc h w
  have e : numT n ++ w = 92 :: (120 :: 123 :: (hexT n ++ 125 :: w)) := by simp [numT]
  rw [e] at he ⊢
  simp only [oneV]
  rw [if_pos (by decide)]
  exact he
/-- A range written out. -/
def rgT (x : Int × Int) : List UInt8 := numT x.1.toNat ++ 45 :: numT x.2.toNat
theorem rgT_item {x : Int × Int} (h0 : 0 ≤ x.1) (h1 : x.1 ≤ x.2) (h2 : x.2 ≤ 1114111) (w : List UInt8) : itemV (rgT x ++ w) = ([toRg x], ((rgT x).length : Int), 0) := by
  have e : rgT x ++ w = numT x.1.toNat ++ (45 :: (numT x.2.toNat ++ w)) := by simp [rgT]
  have ho := numT_one (n := x.1.toNat) (by omega) (45 :: (numT x.2.toNat ++ w))
  have hs := numT_set x.1.toNat (45 :: (numT x.2.toNat ++ w))
  have ho2 := numT_one (n := x.2.toNat) (by omega) w
  have hs2 := numT_set x.2.toNat w
  unfold itemV
  rw [e, if_neg (by simp [numT]), hs, ho]
  dsimp only
  rw [if_neg (by decide), if_neg (by decide), if_neg (by decide), Int.toNat_natCast, List.drop_left]
  have htail : tailV ((x.1.toNat : Nat) : Int) (((numT x.1.toNat).length : Nat) : Int) (45 :: (numT x.2.toNat ++ w)) = spanV (x.1.toNat : Int) ((numT x.1.toNat).length : Int) (numT x.2.toNat ++ w) := by
    have e2 : numT x.2.toNat ++ w = 92 :: (120 :: 123 :: (hexT x.2.toNat ++ 125 :: w)) := by simp [numT]
    rw [e2]
    simp only [tailV]
    rw [if_pos ⟨trivial, by decide⟩]
  rw [htail]
  unfold spanV
  rw [hs2, ho2]
  dsimp only
  rw [if_neg (by decide), if_neg (by decide), if_neg (by omega)]
  have hlen : ((rgT x).length : Int) = ((numT x.1.toNat).length : Int) + 1 + ((numT x.2.toNat).length : Int) := by
    simp only [rgT, List.length_append, List.length_cons]
    omega
  rw [hlen]
  have e1 : ((x.1.toNat : Nat) : Int) = x.1 := by omega
  have e2 : ((x.2.toNat : Nat) : Int) = x.2 := by omega
  rw [e1, e2]
  rfl
def setT (l : List (Int × Int)) : List UInt8 := l.flatMap rgT
theorem rgT_len {x : Int × Int} (h0 : 0 ≤ x.1) (h1 : x.1 ≤ x.2) (h2 : x.2 ≤ 1114111) : (rgT x).length ≤ 21 ∧ 9 ≤ (rgT x).length := by
  obtain ⟨_, a, a2, _⟩ := hexT_fact (n := x.1.toNat) (by omega)
  obtain ⟨_, b, b2, _⟩ := hexT_fact (n := x.2.toNat) (by omega)
  have a3 : 0 < (hexT x.1.toNat).length := List.length_pos_iff.2 a2
  have b3 : 0 < (hexT x.2.toNat).length := List.length_pos_iff.2 b2
  simp only [rgT, numT, List.length_append, List.length_cons, List.length_nil]
  omega
theorem setT_len : ∀ {l : List (Int × Int)}, (∀ x ∈ l, 0 ≤ x.1 ∧ x.1 ≤ x.2 ∧ x.2 ≤ 1114111) → (setT l).length ≤ 21 * l.length
  | [], _ => by simp [setT]
  | x :: l, h => by
    have h1 := h x (by simp)
    have h2 := (rgT_len h1.1 h1.2.1 h1.2.2).1
    have h3 := setT_len (l := l) (fun y hy => h y (by simp [hy]))
    unfold setT at h3 ⊢
    rw [List.flatMap_cons, List.length_append, List.length_cons]
    omega
/-- The program's walk over a set written out. -/
theorem setT_ev (s w : List UInt8) (hs : s.length ≤ 1000000) (F : Nat) : ∀ (l : List (Int × Int)) (at_ : Nat) (acc : List S36), s.drop at_ = setT l ++ 93 :: w → at_ ≤ s.length → F ≤ at_ → (l = [] → F < at_) → (∀ x ∈ l, 0 ≤ x.1 ∧ x.1 ≤ x.2 ∧ x.2 ≤ 1114111) → acc.length + l.length ≤ 1000 → Ev (fun k => bracket_Bracket.l0 k ⟨⟨s⟩⟩ F at_ acc) (acc ++ l.map toRg, ((at_ + (setT l).length : Nat) : Int), 0)
  | [], at_, acc, h, ha, hF, he, hl, hacc => by
    have z := sz s
    have hF2 := he rfl
    have h' : s.drop at_ = 93 :: w := h
    obtain ⟨hb, hi, _⟩ := bt_drop h'
    refine Ev.step (f := fun _ => some (acc, (at_ : Int), 0)) (fun k => ?_) ?_
    · rw [bracket_Bracket.l0, z, if_neg (fun hh => hh.elim (fun e => by omega) (fun e => e.2 (by rw [hb]; rfl))), if_neg (by omega)]
    · rw [List.map_nil, List.append_nil]
      exact Ev.now _
  | x :: l, at_, acc, h, ha, hF, he, hl, hacc => by
    have z := sz s
    have hx := hl x (by simp)
    have e : setT (x :: l) ++ 93 :: w = rgT x ++ (setT l ++ 93 :: w) := by simp [setT]
    rw [e] at h
    have hit := rgT_item hx.1 hx.2.1 hx.2.2 (setT l ++ 93 :: w)
    have hlen := rgT_len hx.1 hx.2.1 hx.2.2
    have hdl := congrArg List.length h
    rw [List.length_drop, List.length_append] at hdl
    have hcond : at_ = F ∨ ((at_ : Int) < (s.length : Int) ∧ bt ⟨⟨s⟩⟩ at_ ≠ 93) := by
      have e2 : rgT x ++ (setT l ++ 93 :: w) = 92 :: (120 :: 123 :: (hexT x.1.toNat ++ 125 :: (45 :: numT x.2.toNat ++ (setT l ++ 93 :: w)))) := by simp [rgT, numT]
      rw [e2] at h
      obtain ⟨hb, hi, _⟩ := bt_drop h
      exact .inr ⟨by omega, by rw [hb]; decide⟩
    refine Ev.step (f := fun k => (bracket_item.f k ⟨⟨s⟩⟩ at_).bind fun q => if acc.length + q.1.length ≤ 100000 then (if q.2.2 ≠ 0 then some ([], q.2.1, q.2.2) else if 0 ≤ q.2.1 then bracket_Bracket.l0 k ⟨⟨s⟩⟩ F q.2.1.toNat (acc ++ q.1) else none) else none) (fun k => by rw [bracket_Bracket.l0, z, if_pos hcond]) (Ev.bind (item_ev s hs at_ _ h ha) ?_)
    rw [hit]
    unfold shiftV
    simp only [List.length_cons] at hacc
    have ih := setT_ev s w hs F l (at_ + (rgT x).length) (acc ++ [toRg x]) (by rw [← List.drop_drop, h, List.drop_left]) (by omega) (by omega) (fun _ => by omega) (fun y hy => hl y (by simp [hy])) (by rw [List.length_append]; simp; omega)
    have e3 : (acc ++ [toRg x]) ++ l.map toRg = acc ++ (x :: l).map toRg := by simp
    have e4 : at_ + (rgT x).length + (setT l).length = at_ + (setT (x :: l)).length := by simp [setT]; omega
    rw [e3, e4] at ih
    refine Ev.congr (fun k => ?_) ih
    dsimp only
    rw [if_pos (by simp; omega), if_neg (by decide), if_pos (by omega), show ((at_ : Int) + ((rgT x).length : Int)).toNat = at_ + (rgT x).length by omega]
theorem norm_l1B (s : List (Int × Int)) (hs : ∀ x ∈ s, 0 ≤ x.1 ∧ x.1 ≤ x.2 ∧ x.2 ≤ 1114111) (hn : s.length ≤ 8796093022000) (d : Nat) : ∀ (i : Nat) (p : List (Int × Int)) (c : Int × Int), i ≤ s.length → s.length - i = d → p.length + d ≤ 8796093022000 → 0 ≤ c.2 → c.2 ≤ 1114111 →
    Ev (fun k => ranges_Norm.l1 k ((p ++ [c]).map toRg) (s.map toRg) (s.length : Int) i) ((p ++ go1 c (s.drop i)).map toRg) := by
  induction d with
  | zero =>
    intro i p c hi hd hp h0 h1
    have e : i = s.length := by omega
    subst e
    refine Ev.step (fun k => ?_) (Ev.now _)
    simp only [ranges_Norm.l1]
    rw [if_neg (by omega), List.drop_of_length_le (Nat.le_refl _)]
    rfl
  | succ d ih =>
    intro i p c hi hd hp h0 h1
    have hlt : i < s.length := by omega
    have hx := hs _ (List.getElem_mem hlt)
    have hlen : (((p ++ [c]).map toRg).length : Int) = p.length + 1 := by simp
    have hlast : rd_T36 ((p ++ [c]).map toRg) (p.length : Int) = toRg c := by
      rw [rd_rg (p ++ [c]) p.length (by simp)]; simp
    have hstep : ∀ k, ranges_Norm.l1 (k + 1) ((p ++ [c]).map toRg) (s.map toRg) (s.length : Int) i = if s[i].1 ≤ c.2 + 1 then ranges_Norm.l1 k ((p ++ [(c.1, max c.2 s[i].2)]).map toRg) (s.map toRg) (s.length : Int) ((i + 1 : Nat) : Int) else ranges_Norm.l1 k (((p ++ [c]) ++ [s[i]]).map toRg) (s.map toRg) (s.length : Int) ((i + 1 : Nat) : Int) := by
      intro k
      simp only [ranges_Norm.l1]
      rw [if_pos (by omega), if_pos (by omega), if_pos (by simp; omega), hlen, if_pos (by omega), wrap_rg (x := (p.length : Int) + 1 - 1) (by omega) (by omega), show (p.length : Int) + 1 - 1 = p.length by omega, if_pos (by omega), if_pos (by omega), hlast, rd_rg s i hlt]
      rw [show (toRg c).f1 = c.2 from rfl, show (toRg c).f0 = c.1 from rfl, show (toRg s[i]).f0 = s[i].1 from rfl, show (toRg s[i]).f1 = s[i].2 from rfl, wrap_rg (x := c.2 + 1) (by omega) (by omega), wrap_rg (x := (i : Int) + 1) (by omega) (by omega), show (i : Int) + 1 = ((i + 1 : Nat) : Int) by omega, mx_rg]
      have hset : ((p ++ [c]).map toRg).set (p.length : Int).toNat (⟨c.1, max c.2 s[i].2⟩ : S36) = (p ++ [(c.1, max c.2 s[i].2)]).map toRg := by
        rw [Int.toNat_natCast, List.map_append, List.map_append, List.set_append_right _ _ (by simp)]
        simp [toRg]
      have happ : (p ++ [c]).map toRg ++ [(⟨s[i].1, s[i].2⟩ : S36)] = ((p ++ [c]) ++ [s[i]]).map toRg := by simp [toRg]
      rw [hset, if_pos (c := (List.map toRg (p ++ [c])).length < 8796093022208) (by simp; omega), happ]
    have hgo : go1 c (s.drop i) = if s[i].1 ≤ c.2 + 1 then go1 (c.1, max c.2 s[i].2) (s.drop (i + 1)) else c :: go1 s[i] (s.drop (i + 1)) := by
      rw [List.drop_eq_getElem_cons hlt]; rfl
    rw [hgo]
    by_cases h : s[i].1 ≤ c.2 + 1
    · rw [if_pos h]
      exact Ev.step (fun k => by rw [hstep k, if_pos h]) (ih (i + 1) p (c.1, max c.2 s[i].2) (by omega) (by omega) (by omega) (by show 0 ≤ max c.2 s[i].2; omega) (by show max c.2 s[i].2 ≤ 1114111; omega))
    · rw [if_neg h]
      have := ih (i + 1) (p ++ [c]) s[i] (by omega) (by omega) (by simp; omega) (by omega) (by omega)
      rw [show p ++ c :: go1 s[i] (s.drop (i + 1)) = (p ++ [c]) ++ go1 s[i] (s.drop (i + 1)) by simp]
      exact Ev.step (fun k => by rw [hstep k, if_neg h]) this
theorem norm_mergeB (s : List (Int × Int)) (hs : ∀ x ∈ s, 0 ≤ x.1 ∧ x.1 ≤ x.2 ∧ x.2 ≤ 1114111) (hn : s.length ≤ 8796093021990) :
    Ev (fun k => ranges_Norm.l1 k ([] : List S36) (s.map toRg) (s.length : Int) 0) ((mergeL s).map toRg) := by
  cases s with
  | nil =>
    refine Ev.step (fun k => ?_) (Ev.now _)
    simp only [ranges_Norm.l1]
    rw [if_neg (by simp)]
    rfl
  | cons x t =>
    have hx := hs x (by simp)
    have h := norm_l1B (x :: t) hs (by omega) t.length 1 [] x (by simp) (by simp) (by simp at hn ⊢; omega) (by omega) (by omega)
    refine Ev.step (fun k => ?_) h
    simp only [ranges_Norm.l1]
    rw [if_pos (by first | omega | (simp; done) | (simp; omega)), if_pos (by omega), if_pos (by first | omega | (simp; done) | (simp; omega)), if_neg (by simp), if_pos (by simp), show ((0 : Int)) = ((0 : Nat) : Int) from rfl, rd_rg (x :: t) 0 (by simp), wrap_rg (x := ((0 : Nat) : Int) + 1) (by omega) (by omega)]
    rfl
theorem norm_l0B (l : List S36) (hn : l.length ≤ 8796093021990) (d : Nat) : ∀ (i : Nat) (x3 : List (Int × Int)), i ≤ l.length → l.length - i = d → x3.length + d ≤ 8796093021990 → (∀ x ∈ x3, 0 ≤ x.1 ∧ x.1 ≤ x.2 ∧ x.2 ≤ 1114111) →
    Ev (fun k => ranges_Norm.l0 k (x3.map toRg) l (l.length : Int) i) ((mergeL (sortLo (x3 ++ ((l.drop i).map ofRg).flatMap clip))).map toRg) := by
  induction d with
  | zero =>
    intro i x3 hi hd hx hr
    have e : i = l.length := by omega
    subst e
    rw [List.drop_of_length_le (Nat.le_refl _), List.map_nil, List.flatMap_nil, List.append_nil]
    have hp := sortLo_perm x3
    have hm := norm_mergeB (sortLo x3) (fun x hx => hr x (hp.mem_iff.1 hx)) (by rw [hp.length_eq]; omega)
    refine Ev.step (fun k => ?_) hm
    simp only [ranges_Norm.l0]
    rw [if_neg (by omega)]
    unfold ext_sortRange.f
    rw [if_pos (by simp; omega)]
    have e : (x3.map toRg).map ofRg = x3 := by rw [List.map_map]; exact List.map_id'' (fun x => ofRg_toRg x) x3
    rw [e, Option.bind_some, show ((x3.map toRg).length : Int) = ((sortLo x3).length : Int) by rw [hp.length_eq]; simp]
  | succ d ih =>
    intro i x3 hi hd hx hr
    have hlt : i < l.length := by omega
    have hrd : rd_T36 l (i : Int) = l[i] := by simp [rd_T36, hlt]
    rw [List.drop_eq_getElem_cons hlt, List.map_cons, List.flatMap_cons, ← List.append_assoc]
    have hclip : clip (ofRg l[i]) = if max l[i].f0 0 ≤ min l[i].f1 1114111 then [(max l[i].f0 0, min l[i].f1 1114111)] else [] := rfl
    have hlc : (clip (ofRg l[i])).length ≤ 1 := by rw [hclip]; split <;> simp
    have h := ih (i + 1) (x3 ++ clip (ofRg l[i])) (by omega) (by omega) (by rw [List.length_append]; omega) (fun x hx' => by
      rcases List.mem_append.1 hx' with h | h
      · exact hr x h
      · exact clip_range (l := [ofRg l[i]]) (by simpa using h))
    refine Ev.step (fun k => ?_) h
    simp only [ranges_Norm.l0]
    rw [if_pos (by omega), if_pos (by omega), if_pos (by omega), hrd, mx_rg, mn_rg, wrap_rg (x := (i : Int) + 1) (by omega) (by omega), show (i : Int) + 1 = ((i + 1 : Nat) : Int) by omega, hclip]
    by_cases hc : max l[i].f0 0 ≤ min l[i].f1 1114111
    · rw [if_pos hc, if_pos hc, if_pos (by simp; omega)]
      simp [toRg]
    · rw [if_neg hc, if_neg hc, List.append_nil]
theorem norm_evB (l : List S36) (hn : l.length ≤ 8796093021990) : Ev (fun k => ranges_Norm.f k l) ((normL (l.map ofRg)).map toRg) := by
  have := norm_l0B l hn l.length 0 [] (Nat.zero_le _) (by omega) (by simp; omega) (fun x hx => by simp at hx)
  unfold ranges_Norm.f normL
  simpa using this
set_option maxRecDepth 100000 in
theorem works_ev : Ev burinlaw07_works.f true := Ev.of burinlaw07_works.mono (k := 40) (by decide +kernel)
theorem norm_fix {m : List (Int × Int)} (h : Nrm m) : normL m = m := nrm_ext (normL_nrm _) h (fun r => by rw [normL_in, hasL_nrm h])
theorem fold0 : foldB 0 = false := by unfold foldB; rw [show Go.bits .and .i64 0 1 = 0 by decide]; rfl
theorem fold1 : foldB 1 = true := by unfold foldB; rw [show Go.bits .and .i64 1 1 = 1 by decide]; rfl
theorem end_step (k : Nat) (a : ByteArray) (x5 : List S36) (x6 : ByteArray) (x35 : List S36) (L i : Int) (hi : ¬ i < L) (hs : x6.size + a.size + 10 ≤ 9223372036854775807) {r1 r2 r3 : List S36 × Int × Int}
    (q1 : bracket_Bracket.f k ((((⟨#[91]⟩ : ByteArray) ++ x6) ++ (⟨#[93]⟩ : ByteArray)) ++ a) 0 = some r1)
    (q2 : bracket_Bracket.f k ((((⟨#[91, 94]⟩ : ByteArray) ++ x6) ++ (⟨#[93]⟩ : ByteArray)) ++ a) 0 = some r2)
    (q3 : bracket_Bracket.f k (((⟨#[91]⟩ : ByteArray) ++ x6) ++ (⟨#[93]⟩ : ByteArray)) 1 = some r3) :
    burinlaw07_BracketWrites.l0 (k + 1) a x5 x6 x35 L i = (if r1.2.2 = 0 then (if r2.2.2 = 0 then (if r3.2.2 = 0 then (if r1.2.1 = (wrap64 ((x6.size : Int) + 2)) then (if r2.2.1 = (wrap64 ((x6.size : Int) + 3)) then (burinlaw07_BracketWrites.j2 k x5 r1.1 r2.1 r3.1 (r3.2.1 != r1.2.1)) else (burinlaw07_BracketWrites.j2 k x5 r1.1 r2.1 r3.1 true)) else (burinlaw07_BracketWrites.j2 k x5 r1.1 r2.1 r3.1 true)) else (burinlaw07_BracketWrites.j2 k x5 r1.1 r2.1 r3.1 true)) else (burinlaw07_BracketWrites.j2 k x5 r1.1 r2.1 r3.1 true)) else (burinlaw07_BracketWrites.j2 k x5 r1.1 r2.1 r3.1 true)) := by
  have z1 : ((⟨#[91]⟩ : ByteArray) ++ x6).size = 1 + x6.size := by rw [ByteArray.size_append]; rfl
  have z2 : (((⟨#[91]⟩ : ByteArray) ++ x6) ++ (⟨#[93]⟩ : ByteArray)).size = 1 + x6.size + 1 := by rw [ByteArray.size_append, z1]; rfl
  have z3 : ((⟨#[91, 94]⟩ : ByteArray) ++ x6).size = 2 + x6.size := by rw [ByteArray.size_append]; rfl
  have z4 : (((⟨#[91, 94]⟩ : ByteArray) ++ x6) ++ (⟨#[93]⟩ : ByteArray)).size = 2 + x6.size + 1 := by rw [ByteArray.size_append, z3]; rfl
  rw [burinlaw07_BracketWrites.l0, if_neg hi, z2, z1, z4, z3, q1, q2, q3]
  generalize x6.size = u at *
  generalize a.size = v at *
  clear z1 z2 z3 z4 q1 q2 q3
  rw [if_pos (by omega), if_pos (by omega), if_pos (by omega), Option.bind_some, if_pos (by omega), if_pos (by omega), if_pos (by omega), Option.bind_some, Option.bind_some]
theorem end_last (n : Nat) (m : List (Int × Int)) (q4 : burinbook_SameRanges.f n (m.map toRg) (m.map toRg) = some true) (q5 : ranges_Not.f n (m.map toRg) = some ((notL m).map toRg)) (q6 : burinbook_SameRanges.f n ((notL m).map toRg) ((notL m).map toRg) = some true) (q7 : burinbook_SameRanges.f n ((closeL m).map toRg) ((closeL m).map toRg) = some true) (h10 : m.length ≤ 10) (u v w : Int) (hw : w = u) :
    (if (0 : Int) = 0 then (if (0 : Int) = 0 then (if (0 : Int) = 0 then (if u = u then (if v = v then (burinlaw07_BracketWrites.j2 (n + 1) (m.map toRg) (m.map toRg) ((notL m).map toRg) ((closeL m).map toRg) (w != u)) else (burinlaw07_BracketWrites.j2 (n + 1) (m.map toRg) (m.map toRg) ((notL m).map toRg) ((closeL m).map toRg) true)) else (burinlaw07_BracketWrites.j2 (n + 1) (m.map toRg) (m.map toRg) ((notL m).map toRg) ((closeL m).map toRg) true)) else (burinlaw07_BracketWrites.j2 (n + 1) (m.map toRg) (m.map toRg) ((notL m).map toRg) ((closeL m).map toRg) true)) else (burinlaw07_BracketWrites.j2 (n + 1) (m.map toRg) (m.map toRg) ((notL m).map toRg) ((closeL m).map toRg) true)) else (burinlaw07_BracketWrites.j2 (n + 1) (m.map toRg) (m.map toRg) ((notL m).map toRg) ((closeL m).map toRg) true)) = some true := by
  subst hw
  rw [if_pos rfl, if_pos rfl, if_pos rfl, if_pos rfl, if_pos rfl, show (w != w) = false by simp, burinlaw07_BracketWrites.j2, if_neg (by decide), q4, Option.bind_some, if_pos rfl, q5, Option.bind_some, q6, Option.bind_some, if_pos rfl]
  unfold fold_Close.f
  rw [if_pos (by rw [List.length_map]; omega), map_forth, Option.bind_some, q7]
  rfl
section
variable {m : List (Int × Int)} (hm : Nrm m) (hp : 0 < m.length) (h10 : m.length ≤ 10)
include hm hp h10
theorem set_head (w : List UInt8) : (setT m ++ w).head? ≠ some 94 := by
  cases m with
  | nil => cases hp
  | cons x l => simp [setT, rgT, numT]
theorem read_plain (a : List UInt8) (ha : a.length ≤ 100) (flags : Int) : Ev (fun k => bracket_Bracket.f k ⟨⟨91 :: (setT m ++ 93 :: a)⟩⟩ flags) ((if foldB flags = true then closeL m else m).map toRg, ((setT m).length : Int) + 2, 0) := by
  have hlen := setT_len hm.inr
  have hev := setT_ev (91 :: (setT m ++ 93 :: a)) a (by simp only [List.length_cons, List.length_append]; omega) 1 m 1 [] rfl (by simp only [List.length_cons]; omega) (by omega) (fun e => by rw [e] at hp; cases hp) hm.inr (by simp; omega)
  rw [List.nil_append] at hev
  have := bracket_of (setT m ++ 93 :: a) (by simp only [List.length_cons, List.length_append]; omega) flags false (decide_eq_false (set_head hm hp h10 _)).symm hev (by rw [List.length_map]; omega)
  rw [if_neg (by simp)] at this
  dsimp only at this
  rw [map_forth] at this
  have hmade : madeL false (foldB flags) m = if foldB flags = true then closeL m else m := by
    unfold madeL
    rw [if_neg (by decide)]
    cases foldB flags with
    | true => simp only [if_true]; exact norm_fix (closeL_nrm m)
    | false => simp only [Bool.false_eq_true, if_false]; exact norm_fix hm
  rw [hmade, show ((1 + (setT m).length : Nat) : Int) + 1 = ((setT m).length : Int) + 2 by omega] at this
  exact this
theorem read_lacks (a : List UInt8) (ha : a.length ≤ 100) : Ev (fun k => bracket_Bracket.f k ⟨⟨91 :: 94 :: (setT m ++ 93 :: a)⟩⟩ 0) ((notL m).map toRg, ((setT m).length : Int) + 3, 0) := by
  have hlen := setT_len hm.inr
  have hev := setT_ev (91 :: 94 :: (setT m ++ 93 :: a)) a (by simp only [List.length_cons, List.length_append]; omega) 2 m 2 [] rfl (by simp only [List.length_cons]; omega) (by omega) (fun e => by rw [e] at hp; cases hp) hm.inr (by simp; omega)
  rw [List.nil_append] at hev
  have := bracket_of (94 :: (setT m ++ 93 :: a)) (by simp only [List.length_cons, List.length_append]; omega) 0 true (decide_eq_true rfl).symm hev (by rw [List.length_map]; omega)
  rw [if_neg (by simp)] at this
  dsimp only at this
  rw [map_forth] at this
  have hmade : madeL true (foldB 0) m = notL m := by
    unfold madeL
    rw [fold0, if_pos rfl, if_neg (by decide)]
    exact norm_fix (notL_nrm m)
  rw [hmade, show ((2 + (setT m).length : Nat) : Int) + 1 = ((setT m).length : Int) + 3 by omega] at this
  exact this
set_option maxHeartbeats 4000000 in
theorem end_ev (a : List UInt8) (ha : a.length ≤ 100) : Ev (fun k => burinlaw07_BracketWrites.l0 k ⟨⟨a⟩⟩ (m.map toRg) ⟨⟨setT m⟩⟩ (m.map toRg) (m.length : Int) (m.length : Int)) true := by
  have hlen := setT_len hm.inr
  have w2 : wrap64 (((setT m).length : Int) + 2) = ((setT m).length : Int) + 2 := wr rfl (by omega) (by omega)
  have w3 : wrap64 (((setT m).length : Int) + 3) = ((setT m).length : Int) + 3 := wr rfl (by omega) (by omega)
  obtain ⟨K1, h1⟩ := read_plain hm hp h10 a ha 0
  obtain ⟨K2, h2⟩ := read_lacks hm hp h10 a ha
  obtain ⟨K3, h3⟩ := read_plain hm hp h10 [] (by simp) 1
  obtain ⟨K4, h4⟩ := same_ev (m.map toRg) (by rw [List.length_map]; omega)
  obtain ⟨K5, h5⟩ := not_ev (m.map toRg) (by rw [List.length_map]; omega)
  obtain ⟨K6, h6⟩ := same_ev ((notL m).map toRg) (by rw [List.length_map]; have := notL_len m; omega)
  obtain ⟨K7, h7⟩ := same_ev ((closeL m).map toRg) (by rw [List.length_map]; have := close_len m; omega)
  rw [map_forth] at h5
  rw [fold0, if_neg (by decide)] at h1
  rw [fold1, if_pos rfl] at h3
  refine ⟨K1 + K2 + K3 + K4 + K5 + K6 + K7 + 2, fun k hk => ?_⟩
  obtain ⟨n, rfl⟩ : ∃ n, k = n + 1 + 1 := ⟨k - 2, by omega⟩
  have q1 : bracket_Bracket.f (n + 1) _ _ = _ := h1 (n + 1) (by omega)
  have q2 : bracket_Bracket.f (n + 1) _ _ = _ := h2 (n + 1) (by omega)
  have q3 : bracket_Bracket.f (n + 1) _ _ = _ := h3 (n + 1) (by omega)
  have q4 : burinbook_SameRanges.f n _ _ = _ := h4 n (by omega)
  have q5 : ranges_Not.f n _ = _ := h5 n (by omega)
  have q6 : burinbook_SameRanges.f n _ _ = _ := h6 n (by omega)
  have q7 : burinbook_SameRanges.f n _ _ = _ := h7 n (by omega)
  have s1 : (((⟨#[91]⟩ : ByteArray) ++ ⟨⟨setT m⟩⟩) ++ (⟨#[93]⟩ : ByteArray)) ++ ⟨⟨a⟩⟩ = ⟨⟨91 :: (setT m ++ 93 :: a)⟩⟩ := by
    show (((⟨⟨[91]⟩⟩ : ByteArray) ++ ⟨⟨setT m⟩⟩) ++ (⟨⟨[93]⟩⟩ : ByteArray)) ++ ⟨⟨a⟩⟩ = _
    rw [app_list, app_list, app_list]
    simp
  have s2 : (((⟨#[91, 94]⟩ : ByteArray) ++ ⟨⟨setT m⟩⟩) ++ (⟨#[93]⟩ : ByteArray)) ++ ⟨⟨a⟩⟩ = ⟨⟨91 :: 94 :: (setT m ++ 93 :: a)⟩⟩ := by
    show (((⟨⟨[91, 94]⟩⟩ : ByteArray) ++ ⟨⟨setT m⟩⟩) ++ (⟨⟨[93]⟩⟩ : ByteArray)) ++ ⟨⟨a⟩⟩ = _
    rw [app_list, app_list, app_list]
    simp
  have s3 : ((⟨#[91]⟩ : ByteArray) ++ ⟨⟨setT m⟩⟩) ++ (⟨#[93]⟩ : ByteArray) = ⟨⟨91 :: (setT m ++ 93 :: [])⟩⟩ := by
    show ((⟨⟨[91]⟩⟩ : ByteArray) ++ ⟨⟨setT m⟩⟩) ++ (⟨⟨[93]⟩⟩ : ByteArray) = _
    rw [app_list, app_list]
    simp
  have hstep := end_step (n + 1) ⟨⟨a⟩⟩ (m.map toRg) ⟨⟨setT m⟩⟩ (m.map toRg) (m.length : Int) (m.length : Int) (Int.lt_irrefl _) (by rw [sz, sz]; omega) (by rw [s1]; exact q1) (by rw [s2]; exact q2) (by rw [s3]; exact q3)
  rw [sz, w2, w3] at hstep
  refine hstep.trans ?_
  exact end_last n m q4 q5 q6 q7 h10 _ _ _ rfl
end
theorem text_step (k : Nat) (a : ByteArray) (x5 : List S36) (x6 : ByteArray) (x35 : List S36) (L i : Int) (hi : i < L) (h0 : 0 ≤ i) (hl : i < (x35.length : Int)) {t u : ByteArray} (e1 : burinlaw07_hex.f ((rd_T36 x35 i).f0) = some t) (e2 : burinlaw07_hex.f ((rd_T36 x35 i).f1) = some u) (hs : x6.size + t.size + u.size + 20 ≤ 9223372036854775807) :
    burinlaw07_BracketWrites.l0 (k + 1) a x5 x6 x35 L i = burinlaw07_BracketWrites.l0 k a x5 (x6 ++ (((((⟨#[92, 120, 123]⟩ : ByteArray) ++ t) ++ (⟨#[125, 45, 92, 120, 123]⟩ : ByteArray)) ++ u) ++ (⟨#[125]⟩ : ByteArray))) x35 L (wrap64 (i + 1)) := by
  have z1 : ((⟨#[92, 120, 123]⟩ : ByteArray) ++ t).size = 3 + t.size := by rw [ByteArray.size_append]; rfl
  have z2 : (((⟨#[92, 120, 123]⟩ : ByteArray) ++ t) ++ (⟨#[125, 45, 92, 120, 123]⟩ : ByteArray)).size = 3 + t.size + 5 := by rw [ByteArray.size_append, z1]; rfl
  have z3 : ((((⟨#[92, 120, 123]⟩ : ByteArray) ++ t) ++ (⟨#[125, 45, 92, 120, 123]⟩ : ByteArray)) ++ u).size = 3 + t.size + 5 + u.size := by rw [ByteArray.size_append, z2]
  have z4 : (((((⟨#[92, 120, 123]⟩ : ByteArray) ++ t) ++ (⟨#[125, 45, 92, 120, 123]⟩ : ByteArray)) ++ u) ++ (⟨#[125]⟩ : ByteArray)).size = 3 + t.size + 5 + u.size + 1 := by rw [ByteArray.size_append, z3]; rfl
  rw [burinlaw07_BracketWrites.l0, if_pos hi, if_pos h0, if_pos hl, e1, e2, Option.bind_some, Option.bind_some, z4, z3, z2, z1]
  clear z1 z2 z3 z4 e1 e2
  generalize t.size = p at *
  generalize u.size = q at *
  generalize x6.size = r at *
  rw [if_pos (by omega), if_pos (by omega), if_pos (by omega), if_pos (by omega), if_pos (by omega)]
theorem text_ev {m : List (Int × Int)} (hm : Nrm m) (hp : 0 < m.length) (h10 : m.length ≤ 10) (a : List UInt8) (ha : a.length ≤ 100) (d : Nat) : ∀ i : Nat, i + d = m.length → Ev (fun k => burinlaw07_BracketWrites.l0 k ⟨⟨a⟩⟩ (m.map toRg) ⟨⟨setT (m.take i)⟩⟩ (m.map toRg) (m.length : Int) (i : Int)) true := by
  induction d with
  | zero =>
    intro i hi
    obtain rfl : i = m.length := by omega
    rw [List.take_of_length_le (Nat.le_refl _)]
    exact end_ev hm hp h10 a ha
  | succ d ih =>
    intro i hi
    have hlt : i < m.length := by omega
    have hx := hm.inr _ (List.getElem_mem hlt)
    obtain ⟨_, b1, _, _⟩ := hexT_fact (n := (m[i]).1.toNat) (by omega)
    obtain ⟨_, b2, _, _⟩ := hexT_fact (n := (m[i]).2.toNat) (by omega)
    have hlen := setT_len (l := m.take i) (fun x hx => hm.inr x (List.mem_of_mem_take hx))
    have hlt2 : (m.take i).length ≤ 10 := by rw [List.length_take]; omega
    have hrd : rd_T36 (m.map toRg) (i : Int) = toRg m[i] := rd_rg m i hlt
    have e1 : burinlaw07_hex.f (toRg m[i]).f0 = some ⟨⟨hexT (m[i]).1.toNat⟩⟩ := by unfold burinlaw07_hex.f; rw [if_pos ⟨hx.1, by show (m[i]).1 ≤ _; omega⟩]; rfl
    have e2 : burinlaw07_hex.f (toRg m[i]).f1 = some ⟨⟨hexT (m[i]).2.toNat⟩⟩ := by unfold burinlaw07_hex.f; rw [if_pos ⟨by show 0 ≤ (m[i]).2; omega, hx.2.2⟩]; rfl
    have hcat : (((((⟨#[92, 120, 123]⟩ : ByteArray) ++ ⟨⟨hexT (m[i]).1.toNat⟩⟩) ++ (⟨#[125, 45, 92, 120, 123]⟩ : ByteArray)) ++ ⟨⟨hexT (m[i]).2.toNat⟩⟩) ++ (⟨#[125]⟩ : ByteArray)) = ⟨⟨rgT m[i]⟩⟩ := by
      show (((((⟨⟨[92, 120, 123]⟩⟩ : ByteArray) ++ ⟨⟨hexT (m[i]).1.toNat⟩⟩) ++ (⟨⟨[125, 45, 92, 120, 123]⟩⟩ : ByteArray)) ++ ⟨⟨hexT (m[i]).2.toNat⟩⟩) ++ (⟨⟨[125]⟩⟩ : ByteArray)) = _
      rw [app_list, app_list, app_list, app_list]
      simp [rgT, numT]
    have e1' : burinlaw07_hex.f ((rd_T36 (m.map toRg) (i : Int)).f0) = some ⟨⟨hexT (m[i]).1.toNat⟩⟩ := by rw [hrd]; exact e1
    have e2' : burinlaw07_hex.f ((rd_T36 (m.map toRg) (i : Int)).f1) = some ⟨⟨hexT (m[i]).2.toNat⟩⟩ := by rw [hrd]; exact e2
    have hrl := (rgT_len hx.1 hx.2.1 hx.2.2).1
    have htk : setT (m.take (i + 1)) = setT (m.take i) ++ rgT m[i] := by
      unfold setT
      rw [List.take_succ_eq_append_getElem hlt, List.flatMap_append]
      simp
    have h := ih (i + 1) (by omega)
    rw [htk] at h
    refine Ev.step (fun k => ?_) h
    have hs := text_step k ⟨⟨a⟩⟩ (m.map toRg) ⟨⟨setT (m.take i)⟩⟩ (m.map toRg) (m.length : Int) (i : Int) (by omega) (by omega) (by rw [List.length_map]; omega) e1' e2' (by rw [sz, sz, sz]; omega)
    rw [hcat, app_list, wr (x := (i : Int) + 1) (y := ((i + 1 : Nat) : Int)) rfl (by omega) (by omega)] at hs
    exact hs
theorem BracketWrites (l : List S36) (a : ByteArray) (hl : l.length * 16 ≤ 140737488351232) (_ha : a.size ≤ 140737488351232) : ∃ k, burinlaw07_BracketWrites.f k l a = some true := by
  obtain ⟨⟨a⟩⟩ := a
  have za := sz a
  obtain ⟨Kw, hw⟩ := works_ev
  obtain ⟨Kn, hn⟩ := norm_evB l (by omega)
  obtain ⟨m, hm⟩ : ∃ m, normL (l.map ofRg) = m := ⟨_, rfl⟩
  have hN : Nrm m := hm ▸ normL_nrm _
  rw [hm] at hn
  have skip : ∀ k, burinlaw07_BracketWrites.j0 (k + 1) ⟨⟨a⟩⟩ (m.map toRg) true = some true := fun k => by rw [burinlaw07_BracketWrites.j0, if_pos rfl]
  have hf : ∀ k, Kw + Kn ≤ k → burinlaw07_BracketWrites.f k l ⟨⟨a⟩⟩ = if (m.length : Int) = 0 then burinlaw07_BracketWrites.j0 k ⟨⟨a⟩⟩ (m.map toRg) true else if (m.length : Int) > 10 then burinlaw07_BracketWrites.j0 k ⟨⟨a⟩⟩ (m.map toRg) true else burinlaw07_BracketWrites.j0 k ⟨⟨a⟩⟩ (m.map toRg) (decide ((a.length : Int) > 100)) := fun k hk => by
    unfold burinlaw07_BracketWrites.f
    rw [show burinlaw07_works.f k = _ from hw k (by omega), Option.bind_some, if_pos rfl, show ranges_Norm.f k l = _ from hn k (by omega), Option.bind_some, List.length_map, za]
  by_cases g1 : (m.length : Int) = 0
  · exact ⟨Kw + Kn + 1, by rw [hf _ (by omega), if_pos g1, skip]⟩
  by_cases g2 : (m.length : Int) > 10
  · exact ⟨Kw + Kn + 1, by rw [hf _ (by omega), if_neg g1, if_pos g2, skip]⟩
  by_cases g3 : (a.length : Int) > 100
  · exact ⟨Kw + Kn + 1, by rw [hf _ (by omega), if_neg g1, if_neg g2, decide_eq_true g3, skip]⟩
  obtain ⟨Kt, ht⟩ := text_ev hN (by omega) (by omega) a (by omega) m.length 0 (by omega)
  refine ⟨Kw + Kn + Kt + 1, ?_⟩
  rw [hf _ (by omega), if_neg g1, if_neg g2, decide_eq_false g3, burinlaw07_BracketWrites.j0, if_neg (by decide), List.length_map]
  exact ht (Kw + Kn + Kt) (by omega)
end Go.Proofs.YtheheijhijeljaaGreatDoor.Pure

