/- BracketReads: sets between brackets by the reference; no condition. -/
import Derived.Test.YtheheijhijeljaaGreatDoorHBracketReadsx24
import Derived.Test.YtheheijhijeljaaGreatDoorBBracketReads1
namespace Go.Proofs.YtheheijhijeljaaGreatDoor.Pure
open Go.RowKit Go.Proofs.YtheheijhijeljaaGreatDoor.HBracketReads Go.Proofs.YtheheijhijeljaaGreatDoorW.PrintWords Go.Proofs.YtheheijhijeljaaGreatDoorW.PrintLast
open Go.Proofs.YtheheijhijeljaaGreatDoorX
set_option linter.unusedVariables false
theorem ev_from {α : Type} {g : Nat → Option α} {r : α} (K : Nat) (h : ∀ k, K ≤ k → g k = some r) : Ev g r := ⟨K, h⟩
theorem wr {x y : Int} (e : x = y) (h0 : -9223372036854775808 ≤ y) (h1 : y ≤ 9223372036854775807) : wrap64 x = y := by
 subst e
 unfold wrap64
 omega
theorem wrap_in {x : Int} (h0 : -9223372036854775808 ≤ x) (h1 : x ≤ 9223372036854775807) : wrap64 x = x := wr rfl h0 h1
theorem bt_drop {l : List UInt8} {i : Nat} {c : UInt8} {t : List UInt8} (h : l.drop i = c :: t) : bt ⟨⟨l⟩⟩ (i : Int) = (c.toNat : Int) ∧ i < l.length ∧ l.drop (i + 1) = t := by
 have hi : i < l.length := Decidable.byContradiction fun hh => by rw [List.drop_eq_nil_of_le (by omega)] at h; cases h
 rw [List.drop_eq_getElem_cons hi] at h
 obtain ⟨h1, h2⟩ := List.cons.inj h
 refine ⟨?_, hi, h2⟩
 unfold bt
 rw [dif_pos (show ((i : Int)).toNat < (ByteArray.mk ⟨l⟩).size by simpa [ByteArray.size] using hi)]
 rw [← h1]
 rfl
theorem sz (l : List UInt8) : (ByteArray.mk ⟨l⟩).size = l.length := by simp [ByteArray.size]
theorem tl (l : List UInt8) : (ByteArray.mk ⟨l⟩).toList = l := by rw [ByteArray.toList_eq]
theorem u8_in (c : UInt8) : 0 ≤ (c.toNat : Int) ∧ (c.toNat : Int) ≤ 255 := by have := c.toNat_lt; omega
/-- What a hexadecimal digit says. -/
def digV (c : Int) : Int := if 48 ≤ c ∧ c ≤ 57 then c - 48 else if 97 ≤ c ∧ c ≤ 102 then c - 87 else if 65 ≤ c ∧ c ≤ 70 then c - 55 else -1
theorem digV_in (c : Int) : -1 ≤ digV c ∧ digV c ≤ 15 := by
 unfold digV
 split
 ·omega
 split
 ·omega
 split <;> omega
theorem digit_f (k : Nat) {c : Int} (h0 : 0 ≤ c) (h1 : c ≤ 255) : bracket_digit.f (k + 2) c = some (digV c) := by
 unfold bracket_digit.f digV
 by_cases a : 48 ≤ c
 ·by_cases b : c ≤ 57
  ·rw [if_pos a, decide_eq_true b, if_pos ⟨a, b⟩, bracket_digit.j0, if_pos rfl]
   congr 1
   omega
  ·rw [if_pos a, decide_eq_false b, if_neg (fun h => b h.2), bracket_digit.j0, if_neg (by decide)]
   by_cases d : 97 ≤ c
   ·by_cases e : c ≤ 102
    ·rw [if_pos d, decide_eq_true e, if_pos ⟨d, e⟩, bracket_digit.j1, if_pos rfl]
     congr 1
     omega
    ·rw [if_pos d, decide_eq_false e, if_neg (fun h => e h.2), bracket_digit.j1, if_neg (by decide), if_pos (by omega), if_neg (by omega), if_neg (by omega)]
   ·rw [if_neg d, if_neg (fun h => d h.1), bracket_digit.j1, if_neg (by decide)]
    by_cases f : 65 ≤ c
    ·by_cases g : c ≤ 70
     ·rw [if_pos f, if_pos g, if_pos ⟨f, g⟩]
      congr 1
      omega
     ·rw [if_pos f, if_neg g, if_neg (fun h => g h.2)]
    ·rw [if_neg f, if_neg (fun h => f h.1)]
 ·rw [if_neg a, if_neg (fun h => a h.1), if_neg (by omega), if_neg (by omega), bracket_digit.j0, if_neg (by decide), if_neg (by omega), bracket_digit.j1, if_neg (by decide), if_neg (by omega)]
/-- A number between braces: what stands from a place on, and what was read. -/
def hexLongV : List UInt8 → Nat → Int → Int × Int × Int
 | [], _, _ => (0, 0, 82)
 | c :: t, i, r => if (c.toNat : Int) = 125 ∧ 3 < i ∧ r ≤ 1114111 then (r, (i : Int) + 1, 0) else if digV c.toNat < 0 ∨ i = 9 then (0, 0, 80) else hexLongV t (i + 1) (16 * r + digV c.toNat)
def hexShortV : List UInt8 → Int × Int × Int
 | [] => (0, 0, 82)
 | [a] => if digV a.toNat < 0 then (0, 0, 80) else (0, 0, 82)
 | a :: b :: _ => if digV a.toNat < 0 then (0, 0, 80) else if digV b.toNat < 0 then (0, 0, 80) else (16 * digV a.toNat + digV b.toNat, 4, 0)
def plainV (c : Int) : Option Int := if c = 97 then some 7 else if c = 102 then some 12 else if c = 116 then some 9 else if c = 110 then some 10 else if c = 114 then some 13 else if c = 118 then some 11 else none
def letB (c : Int) : Bool := decide (97 ≤ c ∧ c ≤ 122 ∨ 65 ≤ c ∧ c ≤ 90)
/-- An escape of a number. -/
def escV : List UInt8 → Int × Int × Int
 | [] => (0, 0, 3)
 | [c] => if (c.toNat : Int) = 92 then (0, 0, 82) else (0, 0, 3)
 | c :: d :: t => if (c.toNat : Int) = 92 then (match plainV d.toNat with
   | some v => (v, 2, 0)
   | none => if (d.toNat : Int) = 120 then (if t.head? = some 123 then hexLongV t.tail 3 0 else hexShortV t) else if (d.toNat : Int) < 33 ∨ (d.toNat : Int) > 126 ∨ letB d.toNat = true ∨ 48 ≤ (d.toNat : Int) ∧ (d.toNat : Int) ≤ 57 then (0, 0, 80) else (d.toNat, 2, 0))
  else (0, 0, 3)
theorem long_ev (s : List UInt8) : ∀ (l : List UInt8) (i : Nat) (r : Int), s.drop i = l → 3 ≤ i → i ≤ 9 → 0 ≤ r → r < 16 ^ (i - 3) → s.length ≤ 1000000 → Ev (fun k => bracket_long.l0 k ⟨⟨s⟩⟩ r i) (hexLongV l i r)
 | [], i, r, h, h3, h9, h0, h1, hs => by
  have : s.length ≤ i := List.drop_eq_nil_iff.1 h
  refine Ev.step (fun k => ?_) (Ev.now _)
  rw [bracket_long.l0, sz, if_neg (by omega)]
  rfl
 | c :: t, i, r, h, h3, h9, h0, h1, hs => by
  obtain ⟨hb, hi, ht⟩ := bt_drop h
  have hc := u8_in c
  have hd := digV_in c.toNat
  have hr : r < 16777216 := Int.lt_of_lt_of_le h1 (by
   have : i - 3 = 0 ∨ i - 3 = 1 ∨ i - 3 = 2 ∨ i - 3 = 3 ∨ i - 3 = 4 ∨ i - 3 = 5 ∨ i - 3 = 6 := by omega
   rcases this with e | e | e | e | e | e | e <;> rw [e] <;> decide)
  have hj : ∀ b : Bool, b = decide ((c.toNat : Int) = 125 ∧ 3 < i ∧ r ≤ 1114111) → Ev (fun k => bracket_long.j1 k ⟨⟨s⟩⟩ r i (digV c.toNat) b) (hexLongV (c :: t) i r) := by
   intro b hb2
   unfold hexLongV
   by_cases g : (c.toNat : Int) = 125 ∧ 3 < i ∧ r ≤ 1114111
   ·rw [if_pos g]
    rw [decide_eq_true g] at hb2
    subst hb2
    refine Ev.step (fun k => ?_) (Ev.now _)
    rw [bracket_long.j1, if_pos rfl, wr (y := (i : Int) + 1) rfl (by omega) (by omega)]
   ·rw [if_neg g]
    rw [decide_eq_false g] at hb2
    subst hb2
    by_cases e1 : digV c.toNat < 0
    ·rw [if_pos (.inl e1)]
     refine Ev.step (fun k => ?_) (Ev.now _)
     rw [bracket_long.j1, if_neg (by decide), if_pos e1]
    ·by_cases e2 : i = 9
     ·rw [if_pos (.inr e2)]
      refine Ev.step (fun k => ?_) (Ev.now _)
      rw [bracket_long.j1, if_neg (by decide), if_neg e1, wr (y := (i : Int) - 3) rfl (by omega) (by omega), if_pos (by omega)]
     ·rw [if_neg (fun h => h.elim e1 e2)]
      refine Ev.step (fun k => ?_) (long_ev s t (i + 1) (16 * r + digV c.toNat) ht (by omega) (by omega) (by omega) ?_ hs)
      ·rw [bracket_long.j1, if_neg (by decide), if_neg e1, wr (y := (i : Int) - 3) rfl (by omega) (by omega), if_neg (by omega), wr (y := 16 * r) rfl (by omega) (by omega), wr (y := 16 * r + digV c.toNat) rfl (by omega) (by omega), wr (y := ((i + 1 : Nat) : Int)) (by omega) (by omega) (by omega)]
      ·rw [show i + 1 - 3 = (i - 3) + 1 by omega, Int.pow_succ]
       omega
  obtain ⟨K, hK⟩ := hj _ rfl
  refine ⟨K + 3, fun k hk => ?_⟩
  obtain ⟨m, rfl⟩ : ∃ m, k = m + 2 + 1 := ⟨k - 3, by omega⟩
  have h2 : bracket_long.j1 (m + 2) ⟨⟨s⟩⟩ r i (digV c.toNat) _ = _ := hK (m + 2) (by omega)
  show bracket_long.l0 (m + 2 + 1) _ _ _ = _
  rw [bracket_long.l0, sz, if_pos (by omega), if_pos (by omega), hb, digit_f _ hc.1 hc.2, Option.bind_some, ← h2]
  by_cases g1 : (c.toNat : Int) = 125
  ·by_cases g2 : 3 < i
   ·rw [if_pos g1, if_pos (by omega), show decide ((c.toNat : Int) = 125 ∧ 3 < i ∧ r ≤ 1114111) = decide (r ≤ 1114111) from by rw [Bool.eq_iff_iff]; simp only [decide_eq_true_eq]; exact ⟨fun h => h.2.2, fun h => ⟨g1, g2, h⟩⟩]
   ·rw [if_pos g1, if_neg (by omega), decide_eq_false (fun h : (c.toNat : Int) = 125 ∧ 3 < i ∧ r ≤ 1114111 => g2 h.2.1)]
  ·rw [if_neg g1, decide_eq_false (fun h : (c.toNat : Int) = 125 ∧ 3 < i ∧ r ≤ 1114111 => g1 h.1)]
theorem short_ev (s : List UInt8) (h2 : 2 ≤ s.length) (hs : s.length ≤ 1000000) : Ev (fun k => bracket_short.f k ⟨⟨s⟩⟩) (hexShortV (s.drop 2)) := by
 refine ⟨6, fun k hk => ?_⟩
 obtain ⟨m, rfl⟩ : ∃ m, k = m + 2 + 1 + 1 + 1 + 1 := ⟨k - 6, by omega⟩
 show bracket_short.f (m + 2 + 1 + 1 + 1 + 1) _ = _
 unfold bracket_short.f
 have z := sz s
 rw [bracket_short.l0, if_pos (by omega), z]
 cases h : s.drop 2 with
 | nil =>
  have : s.length ≤ 2 := List.drop_eq_nil_iff.1 h
  rw [if_pos (by omega)]
  rfl
 | cons a t =>
  obtain ⟨hb, hi, ht⟩ := bt_drop h
  have ha := u8_in a
  have hd := digV_in a.toNat
  rw [if_neg (by omega), if_pos (by omega), if_pos (by omega), show (2 : Int) = ((2 : Nat) : Int) from rfl, hb, digit_f _ ha.1 ha.2, Option.bind_some]
  by_cases e : digV a.toNat < 0
  ·rw [if_pos e]
   cases t with
   | nil => simp only [hexShortV]; rw [if_pos e]
   | cons b u => simp only [hexShortV]; rw [if_pos e]
  ·rw [if_neg e, show wrap64 (wrap64 (16 * 0) + digV a.toNat) = digV a.toNat from by rw [wr (x := 16 * 0) (y := 0) rfl (by omega) (by omega)]; exact wr (by omega) (by omega) (by omega), wr (x := ((2 : Nat) : Int) + 1) (y := 3) rfl (by omega) (by omega)]
   rw [bracket_short.l0, if_pos (by omega), z]
   cases t with
   | nil =>
    have : s.length ≤ 3 := List.drop_eq_nil_iff.1 ht
    rw [if_pos (by omega)]
    simp only [hexShortV]; rw [if_neg e]
   | cons b u =>
    obtain ⟨hb2, hi2, ht2⟩ := bt_drop ht
    have hb' := u8_in b
    have hd' := digV_in b.toNat
    rw [if_neg (by omega), if_pos (by omega), if_pos (by omega), show (3 : Int) = ((2 + 1 : Nat) : Int) from rfl, hb2, digit_f _ hb'.1 hb'.2, Option.bind_some]
    by_cases e2 : digV b.toNat < 0
    ·rw [if_pos e2]
     simp only [hexShortV]; rw [if_neg e, if_pos e2]
    ·rw [if_neg e2, wr (y := 16 * digV a.toNat) rfl (by omega) (by omega), wr (y := 16 * digV a.toNat + digV b.toNat) rfl (by omega) (by omega), wr (x := ((2 + 1 : Nat) : Int) + 1) (y := 4) rfl (by omega) (by omega)]
     rw [bracket_short.l0, if_neg (by omega)]
     simp only [hexShortV]; rw [if_neg e, if_neg e2]
theorem letter_f {c : Int} : bracket_letter.f c = some (letB c) := by
 unfold bracket_letter.f letB
 by_cases a : 97 ≤ c
 ·by_cases b : c ≤ 122
  ·rw [if_pos a, if_pos b, decide_eq_true (.inl ⟨a, b⟩)]
  ·rw [if_pos a, if_neg b, if_pos (by omega), decide_eq_false (by omega), decide_eq_false (by omega)]
 ·rw [if_neg a]
  by_cases d : 65 ≤ c
  ·by_cases e : c ≤ 90
   ·rw [if_pos d, decide_eq_true e, decide_eq_true (.inr ⟨d, e⟩)]
   ·rw [if_pos d, decide_eq_false e, decide_eq_false (by omega)]
  ·rw [if_neg d, decide_eq_false (by omega)]
theorem plain_mem {c v : Int} (h : plainV c = some v) : c ∈ numLetters ∧ numPlain.getD (numLetters.idxOf c) 0 = v := by
 unfold plainV at h
 repeat' split at h
 all_goals first
  | (cases h; done)
  | (obtain rfl := Option.some.inj h; subst_vars; exact ⟨by decide, by decide⟩)
theorem plain_not {c : Int} (h : plainV c = none) : c ∉ numLetters := by
 unfold plainV at h
 repeat' split at h
 all_goals first
  | (cases h; done)
  | (simp [numLetters]; omega)
theorem ev_const {α : Type} {g : Nat → Option α} {r : α} (h : ∀ k, g k = some r) : Ev g r := ⟨0, fun k _ => h k⟩
theorem u8_eq {c : UInt8} {n : Nat} (h : (c.toNat : Int) = (n : Int)) (hn : n < 256) : c = n.toUInt8 := by
 apply UInt8.toNat_inj.1
 rw [show c.toNat = n by omega]
 simp
 omega
/-- The program's answer for an escape of a number. -/
theorem num_ev (s : List UInt8) (hs : s.length ≤ 1000000) : Ev (fun k => bracket_Number.f k ⟨⟨s⟩⟩) (escV s) := by
 have z := sz s
 match s, z, hs with
 | [], _, _ => exact ev_const fun k => by unfold bracket_Number.f; rw [tl, if_pos rfl]; rfl
 | c :: t, z, hs =>
  have hb : bt ⟨⟨c :: t⟩⟩ 0 = (c.toNat : Int) := (bt_drop (l := c :: t) (i := 0) rfl).1
  have hc := u8_in c
  by_cases e : (c.toNat : Int) = 92
  ·cases t with
   | nil => exact ev_const fun k => by unfold bracket_Number.f; rw [tl, if_neg (by simp), hb, if_pos e, z, if_pos (by simp)]; simp only [escV]; rw [if_pos e]
   | cons d u =>
    have hd := u8_in d
    have hb1 : bt ⟨⟨c :: d :: u⟩⟩ 1 = (d.toNat : Int) := (bt_drop (l := c :: d :: u) (i := 1) rfl).1
    have h0 : ∀ k, bracket_Number.f k ⟨⟨c :: d :: u⟩⟩ = if (d.toNat : Int) ∈ numLetters then some (numPlain.getD (numLetters.idxOf (d.toNat : Int)) 0, 2, 0) else if (d.toNat : Int) = 120 then (if 2 < ((ByteArray.mk ⟨c :: d :: u⟩).size : Int) ∧ bt ⟨⟨c :: d :: u⟩⟩ 2 = 123 then bracket_long.f k ⟨⟨c :: d :: u⟩⟩ else bracket_short.f k ⟨⟨c :: d :: u⟩⟩)
      else if (d.toNat : Int) < 33 ∨ (d.toNat : Int) > 126 then some (0, 0, 80) else (bracket_letter.f (d.toNat : Int)).bind fun t => if t = true ∨ 48 ≤ (d.toNat : Int) ∧ (d.toNat : Int) ≤ 57 then some (0, 0, 80) else some ((d.toNat : Int), 2, 0) := fun k => by
     unfold bracket_Number.f
     rw [tl, if_neg (by simp), hb, if_pos e, if_neg (by rw [z]; simp only [List.length_cons]; omega), if_pos (by rw [z]; simp only [List.length_cons]; omega), hb1]
    simp only [escV]
    rw [if_pos e]
    cases hp : plainV (d.toNat : Int) with
    | some v =>
     obtain ⟨h1, h2⟩ := plain_mem hp
     exact ev_const fun k => by rw [h0, if_pos h1, h2]
    | none =>
     have h1 := plain_not hp
     by_cases e2 : (d.toNat : Int) = 120
     ·simp only [if_pos e2]
      cases u with
      | nil => exact Ev.congr (fun k => by rw [h0, if_neg h1, if_pos e2, if_neg (by rw [z]; simp)]) (short_ev (c :: d :: []) (by simp) hs)
      | cons f v =>
       have hb2 : bt ⟨⟨c :: d :: f :: v⟩⟩ 2 = (f.toNat : Int) := (bt_drop (l := c :: d :: f :: v) (i := 2) rfl).1
       by_cases e3 : (f.toNat : Int) = 123
       ·have hf : f = 123 := u8_eq (n := 123) e3 (by omega)
        rw [if_pos (by rw [hf]; rfl)]
        exact Ev.congr (fun k => by rw [h0, if_neg h1, if_pos e2, if_pos ⟨by rw [z]; simp only [List.length_cons]; omega, by rw [hb2]; exact e3⟩]; rfl) (long_ev (c :: d :: f :: v) v 3 0 rfl (by omega) (by omega) (by omega) (by decide) hs)
       ·rw [if_neg (by simp; intro h; subst h; exact e3 rfl)]
        exact Ev.congr (fun k => by rw [h0, if_neg h1, if_pos e2, if_neg (fun h => e3 (hb2 ▸ h.2))]) (short_ev (c :: d :: f :: v) (by simp) hs)
     ·simp only [if_neg e2]
      refine ev_const fun k => ?_
      rw [h0, if_neg h1, if_neg e2]
      by_cases e3 : (d.toNat : Int) < 33
      ·rw [if_pos (.inl e3), if_pos (.inl e3)]
      by_cases e4 : (d.toNat : Int) > 126
      ·rw [if_pos (.inr e4), if_pos (.inr (.inl e4))]
      rw [if_neg (by omega), letter_f, Option.bind_some]
      by_cases e5 : letB d.toNat = true ∨ 48 ≤ (d.toNat : Int) ∧ (d.toNat : Int) ≤ 57
      ·rw [if_pos e5, if_pos (.inr (.inr e5))]
      ·rw [if_neg e5, if_neg (fun h => h.elim e3 (fun h => h.elim e4 e5))]
  ·refine ev_const fun k => ?_
   unfold bracket_Number.f
   rw [tl, if_neg (by simp), hb, if_neg e]
   cases t with
   | nil => simp only [escV]; rw [if_neg e]
   | cons d u => simp only [escV]; rw [if_neg e]
theorem not_l0 (s : List (Int × Int)) (hs : ∀ x ∈ s, 0 ≤ x.1 ∧ x.1 ≤ x.2 ∧ x.2 ≤ 1114111) (hn : s.length ≤ 900000) (d : Nat) : ∀ (i : Nat) (p : List (Int × Int)) (f : Int), i ≤ s.length → s.length - i = d → p.length + d ≤ 900000 → 0 ≤ f → f ≤ 1114112 →
  Ev (fun k => ranges_Not.l0 k (p.map toRg) f (s.map toRg) (s.length : Int) i) ((p ++ notG f (s.drop i)).map toRg) := by
 induction d with
 | zero =>
  intro i p f hi hd hp h0 h1
  have e : i = s.length := by omega
  subst e
  refine Ev.step (fun k => ?_) (Ev.now _)
  simp only [ranges_Not.l0]
  rw [if_neg (by omega), List.drop_of_length_le (Nat.le_refl _)]
  by_cases hf : f ≤ 1114111
  ·rw [if_pos hf, if_pos (by simp; omega), notG, if_pos hf]
   simp [toRg]
  ·rw [if_neg hf, notG, if_neg hf, List.append_nil]
 | succ d ih =>
  intro i p f hi hd hp h0 h1
  have hlt : i < s.length := by omega
  have hx := hs _ (List.getElem_mem hlt)
  have hstep : ∀ k, ranges_Not.l0 (k + 1) (p.map toRg) f (s.map toRg) (s.length : Int) i = if s[i].1 > f then ranges_Not.l0 k ((p ++ [(f, s[i].1 - 1)]).map toRg) (s[i].2 + 1) (s.map toRg) (s.length : Int) ((i + 1 : Nat) : Int) else ranges_Not.l0 k (p.map toRg) (s[i].2 + 1) (s.map toRg) (s.length : Int) ((i + 1 : Nat) : Int) := by
   intro k
   simp only [ranges_Not.l0]
   rw [if_pos (by omega), if_pos (by omega), if_pos (by simp; omega), rd_rg s i hlt]
   rw [show (toRg s[i]).f0 = s[i].1 from rfl, show (toRg s[i]).f1 = s[i].2 from rfl, wrap_rg (x := s[i].1 - 1) (by omega) (by omega), wrap_rg (x := s[i].2 + 1) (by omega) (by omega), wrap_rg (x := (i : Int) + 1) (by omega) (by omega), show (i : Int) + 1 = ((i + 1 : Nat) : Int) by omega]
   rw [if_pos (c := (List.map toRg p).length < 8796093022208) (by simp; omega)]
   simp [toRg]
  rw [List.drop_eq_getElem_cons hlt, notG]
  by_cases h : s[i].1 > f
  ·rw [if_pos h]
   have := ih (i + 1) (p ++ [(f, s[i].1 - 1)]) (s[i].2 + 1) (by omega) (by omega) (by simp; omega) (by omega) (by omega)
   rw [List.append_assoc] at this
   exact Ev.step (fun k => by rw [hstep k, if_pos h]) this
  ·rw [if_neg h]
   exact Ev.step (fun k => by rw [hstep k, if_neg h]) (ih (i + 1) p (s[i].2 + 1) (by omega) (by omega) (by omega) (by omega) (by omega))
theorem not_ev (l : List S36) (hn : l.length ≤ 900000) : Ev (fun k => ranges_Not.f k l) ((notL (l.map ofRg)).map toRg) := by
 have hl := normL_len (l.map ofRg)
 rw [List.length_map] at hl
 have hN := normL_nrm (l.map ofRg)
 have := not_l0 (normL (l.map ofRg)) (fun x hx => hN.inr x hx) (by omega) _ 0 [] 0 (Nat.zero_le _) rfl (by simp; omega) (by omega) (by omega)
 unfold ranges_Not.f
 refine Ev.bind (norm_ev l hn) ?_
 simpa [notL] using this
theorem same_l0 (s : List S36) (hn : s.length ≤ 2000000) (d : Nat) : ∀ i : Nat, i ≤ s.length → s.length - i = d → Ev (fun k => burinbook_SameRanges.l0 k s s true i) true := by
 induction d with
 | zero =>
  intro i hi hd
  refine Ev.step (fun k => ?_) (Ev.now _)
  simp only [burinbook_SameRanges.l0]
  rw [if_pos trivial, if_neg (by omega)]
 | succ d ih =>
  intro i hi hd
  refine Ev.step (fun k => ?_) (ih (i + 1) (by omega) (by omega))
  simp only [burinbook_SameRanges.l0]
  rw [if_pos trivial, if_pos (by omega), if_pos (by omega), if_pos (by omega), wrap_rg (x := (i : Int) + 1) (by omega) (by omega), show (i : Int) + 1 = ((i + 1 : Nat) : Int) by omega]
  simp
theorem same_ev (s : List S36) (hn : s.length ≤ 2000000) : Ev (fun k => burinbook_SameRanges.f k s s) true := by
 have := same_l0 s hn _ 0 (Nat.zero_le _) rfl
 unfold burinbook_SameRanges.f
 simpa using this
theorem rhas_l0 (s : List (Int × Int)) (r : Int) (hn : s.length ≤ 900000) (d : Nat) : ∀ i : Nat, i ≤ s.length → s.length - i = d → Ev (fun k => burinref02_Has.l0 k (s.map toRg) r i) (hasL (s.drop i) r) := by
 induction d with
 | zero =>
  intro i hi hd
  have e : i = s.length := by omega
  subst e
  rw [List.drop_of_length_le (Nat.le_refl _)]
  refine Ev.step (f := fun k => burinref02_Has.j1 k (s.map toRg) r (s.length : Int) false) (fun k => ?_) (Ev.step (fun k => ?_) (Ev.now _))
  ·simp only [burinref02_Has.l0]
   rw [if_neg (by simp)]
  ·simp only [burinref02_Has.j1]
   rw [if_neg (by simp)]
   unfold hasL
   rw [inL_nil]
   simp
 | succ d ih =>
  intro i hi hd
  have hlt : i < s.length := by omega
  have h0 : ∀ k, burinref02_Has.l0 (k + 1) (s.map toRg) r i = burinref02_Has.j1 k (s.map toRg) r (i : Int) (decide (0 ≤ r ∧ r ≤ 1114111)) := by
   intro k
   simp only [burinref02_Has.l0]
   rw [if_pos (by simp; omega)]
   by_cases c : r ≥ 0
   ·rw [if_pos c]
    congr 1
    rw [decide_eq_decide]
    omega
   ·rw [if_neg c, decide_eq_false (by omega)]
  by_cases c : 0 ≤ r ∧ r ≤ 1114111
  ·have hd' : hasL (s.drop i) r = ((decide (s[i].1 ≤ r) && decide (r ≤ s[i].2)) || hasL (s.drop (i + 1)) r) := by
    unfold hasL
    rw [decide_eq_true c.1, decide_eq_true c.2, List.drop_eq_getElem_cons hlt, inL_cons]
    rfl
   rw [hd']
   have hr := ih (i + 1) (by omega) (by omega)
   have h1 : ∀ k, burinref02_Has.j1 (k + 1) (s.map toRg) r (i : Int) true = if s[i].1 ≤ r ∧ r ≤ s[i].2 then some true else burinref02_Has.l0 k (s.map toRg) r ((i + 1 : Nat) : Int) := by
    intro k
    simp only [burinref02_Has.j1]
    rw [if_pos trivial, if_pos (by omega), if_pos (by simp; omega), rd_rg s i hlt, wrap_rg (x := (i : Int) + 1) (by omega) (by omega), show (i : Int) + 1 = ((i + 1 : Nat) : Int) by omega]
    rw [show (toRg s[i]).f0 = s[i].1 from rfl, show (toRg s[i]).f1 = s[i].2 from rfl]
    by_cases a : s[i].1 ≤ r
    ·by_cases b : r ≤ s[i].2
     ·rw [if_pos a, if_pos b, if_pos ⟨a, b⟩]
     ·rw [if_pos a, if_neg b, if_neg (fun h => b h.2)]
    ·rw [if_neg a, if_neg (fun h => a h.1)]
   rw [decide_eq_true c] at h0
   by_cases q : s[i].1 ≤ r ∧ r ≤ s[i].2
   ·rw [decide_eq_true q.1, decide_eq_true q.2]
    exact Ev.step h0 (Ev.step (fun k => by rw [h1 k, if_pos q]; rfl) (Ev.now _))
   ·have : (decide (s[i].1 ≤ r) && decide (r ≤ s[i].2)) = false := by
     rw [← Bool.not_eq_true, Bool.and_eq_true, decide_eq_true_eq, decide_eq_true_eq]
     exact q
    rw [this, Bool.false_or]
    exact Ev.step h0 (Ev.step (fun k => by rw [h1 k, if_neg q]) hr)
  ·rw [decide_eq_false c] at h0
   refine Ev.step h0 (Ev.step (fun k => ?_) (Ev.now _))
   simp only [burinref02_Has.j1]
   rw [if_neg (by simp)]
   have : hasL (s.drop i) r = false := by
    unfold hasL
    by_cases c1 : 0 ≤ r
    ·rw [decide_eq_false (show ¬ r ≤ 1114111 by omega)]; simp
    ·rw [decide_eq_false c1]; simp
   rw [this]
theorem rhas_ev (s : List (Int × Int)) (r : Int) (hn : s.length ≤ 900000) : Ev (fun k => burinref02_Has.f k (s.map toRg) r) (hasL s r) := by
 have := rhas_l0 s r hn _ 0 (Nat.zero_le _) rfl
 unfold burinref02_Has.f
 simpa using this
theorem edge_l0 (s : List (Int × Int)) (at_ : Int) (h0 : 0 ≤ at_) (hn : s.length ≤ 900000) (d : Nat) : ∀ (i : Nat) (n : Int), i ≤ s.length → s.length - i = d → Ev (fun k => burinref02_edge.l0 k (s.map toRg) at_ n i) (edgeG at_ n (s.drop i)) := by
 induction d with
 | zero =>
  intro i n hi hd
  have e : i = s.length := by omega
  subst e
  rw [List.drop_of_length_le (Nat.le_refl _)]
  refine Ev.step (fun k => ?_) (Ev.now _)
  simp only [burinref02_edge.l0]
  rw [if_neg (by simp)]
  rfl
 | succ d ih =>
  intro i n hi hd
  have hlt : i < s.length := by omega
  rw [List.drop_eq_getElem_cons hlt, edgeG]
  have h1 : ∀ k, burinref02_edge.l0 (k + 1) (s.map toRg) at_ n i = burinref02_edge.j1 k (s.map toRg) at_ n i (decide (s[i].1 > at_ ∧ s[i].1 < n)) := by
   intro k
   simp only [burinref02_edge.l0]
   rw [if_pos (by simp; omega), if_pos (by omega), rd_rg s i hlt, show (toRg s[i]).f0 = s[i].1 from rfl]
   by_cases c : s[i].1 > at_
   ·rw [if_pos c]
    congr 1
    rw [decide_eq_decide]
    omega
   ·rw [if_neg c, decide_eq_false (by omega)]
  refine Ev.step h1 (Ev.step (fun k => ?_) (ih (i + 1) (edgeS at_ n s[i]) (by omega) (by omega)))
  have hw : at_ ≤ s[i].2 → s[i].2 < 1114111 → wrap64 (s[i].2 + 1) = s[i].2 + 1 := fun a b => wrap_rg (by omega) (by omega)
  simp only [burinref02_edge.j1]
  rw [rd_rg s i hlt, show (toRg s[i]).f0 = s[i].1 from rfl, show (toRg s[i]).f1 = s[i].2 from rfl, wrap_rg (x := (i : Int) + 1) (by omega) (by omega), show (i : Int) + 1 = ((i + 1 : Nat) : Int) by omega]
  have hi0 : (0 : Int) ≤ (i : Int) := by omega
  have hi1 : (i : Int) < ((s.map toRg).length : Int) := by simp; omega
  simp only [if_pos hi0, if_pos hi1, edgeS]
  by_cases c : s[i].1 > at_ ∧ s[i].1 < n
  ·rw [decide_eq_true c]
   simp only [if_pos c, if_true]
   by_cases a : s[i].2 ≥ at_
   ·rw [if_pos a]
    by_cases b : s[i].2 < 1114111
    ·rw [if_pos b, hw a b]
     by_cases e : s[i].2 + 1 < s[i].1
     ·rw [if_pos e, if_pos ⟨a, b, e⟩]
     ·rw [if_neg e, if_neg (fun h => e h.2.2)]
    ·rw [if_neg b, if_neg (fun h => b h.2.1)]
   ·rw [if_neg a, if_neg (fun h => a h.1)]
  ·rw [decide_eq_false c]
   simp only [if_neg c]
   rw [if_neg (by simp)]
   by_cases a : s[i].2 ≥ at_
   ·rw [if_pos a]
    by_cases b : s[i].2 < 1114111
    ·rw [if_pos b, hw a b]
     by_cases e : s[i].2 + 1 < n
     ·rw [if_pos e, if_pos ⟨a, b, e⟩]
     ·rw [if_neg e, if_neg (fun h => e h.2.2)]
    ·rw [if_neg b, if_neg (fun h => b h.2.1)]
   ·rw [if_neg a, if_neg (fun h => a h.1)]
theorem edge_ev (s : List (Int × Int)) (at_ : Int) (h0 : 0 ≤ at_) (hn : s.length ≤ 900000) : Ev (fun k => burinref02_edge.f k (s.map toRg) at_) (edgeL s at_) := by
 have := edge_l0 s at_ h0 hn _ 0 1114112 (Nat.zero_le _) rfl
 unfold burinref02_edge.f edgeL
 simpa using this
/-- The three ways of making. -/
def madeBy (op : Int) (x y : Bool) : Bool := (decide (op = 1) && (x || y)) || ((decide (op = 2) && (x && y)) || (decide (op = 3) && (x && !y)))
theorem make_j2 (op : Int) (a b : List (Int × Int)) (G : Int → Bool) (p : List (Int × Int)) (at_ next : Int) (hU : Upto G at_ p) (h0 : 0 ≤ at_) (h1 : at_ < next) (h2 : next ≤ 1114112) (hG : ∀ r, at_ ≤ r → r < next → G r = G at_) :
  ∃ q, Upto G next q ∧ ∀ k, burinref02_Make.j2 (k + 1) op (a.map toRg) (b.map toRg) (p.map toRg) at_ next (G at_) = burinref02_Make.l0 k op (a.map toRg) (b.map toRg) (q.map toRg) next := by
 by_cases g : G at_ = true
 ·rw [g] at hG
  have hlen := nrm_len hU.nrm
  have happ : (p.map toRg).length < 8796093022208 := by simp; omega
  rcases List.eq_nil_or_concat p with rfl | ⟨p', c, rfl⟩
  ·refine ⟨[(at_, next - 1)], hU.more h0 h1 h2 hG (fun x hx => by cases hx), fun k => ?_⟩
   simp only [burinref02_Make.j2]
   rw [g, if_pos rfl, if_neg (by simp), if_pos happ, wrap_rg (x := next - 1) (by omega) (by omega)]
   rfl
  ·rw [List.concat_eq_append] at *
   have hl : (((p' ++ [c]).map toRg).length : Int) = p'.length + 1 := by simp
   have hp' : p'.length + 1 ≤ 1114112 := by simpa using hlen
   have hlast : rd_T36 ((p' ++ [c]).map toRg) (p'.length : Int) = toRg c := by
    rw [rd_rg (p' ++ [c]) p'.length (by simp)]; simp
   have hc := hU.nrm.inr c (by simp)
   by_cases e : c.2 + 1 = at_
   ·refine ⟨p' ++ [(c.1, next - 1)], hU.join h0 h1 h2 hG e, fun k => ?_⟩
    simp only [burinref02_Make.j2]
    rw [g, if_pos rfl, hl, if_pos (by omega), wrap_rg (x := (p'.length : Int) + 1 - 1) (by omega) (by omega), show (p'.length : Int) + 1 - 1 = p'.length by omega, if_pos (by omega), if_pos (by omega), hlast]
    rw [show (toRg c).f1 = c.2 from rfl, show (toRg c).f0 = c.1 from rfl, wrap_rg (x := c.2 + 1) (by omega) (by omega), if_pos e, wrap_rg (x := next - 1) (by omega) (by omega)]
    congr 1
    rw [Int.toNat_natCast, List.map_append, List.map_append, List.set_append_right _ _ (by simp)]
    simp [toRg]
   ·refine ⟨(p' ++ [c]) ++ [(at_, next - 1)], hU.more h0 h1 h2 hG (fun x hx => ?_), fun k => ?_⟩
    ·rcases List.mem_append.1 hx with hx | hx
     ·have := (List.pairwise_append.1 hU.nrm.apart).2.2 x hx c (by simp)
      have := hU.lt c (by simp)
      omega
     ·simp only [List.mem_singleton] at hx; subst hx; exact e
    ·simp only [burinref02_Make.j2]
     rw [g, if_pos rfl, hl, if_pos (by omega), wrap_rg (x := (p'.length : Int) + 1 - 1) (by omega) (by omega), show (p'.length : Int) + 1 - 1 = p'.length by omega, if_pos (by omega), if_pos (by omega), hlast]
     rw [show (toRg c).f1 = c.2 from rfl, wrap_rg (x := c.2 + 1) (by omega) (by omega), if_neg e, if_pos happ, wrap_rg (x := next - 1) (by omega) (by omega)]
     congr 1
     simp [toRg]
 ·rw [Bool.not_eq_true] at g
  rw [g] at hG
  refine ⟨p, hU.skip h1 hG, fun k => ?_⟩
  simp only [burinref02_Make.j2]
  rw [g, if_neg (by simp)]
theorem make_j1 (op : Int) (hop : op = 1 ∨ op = 2 ∨ op = 3) (a b : List S36) (p : List S36) (at_ next : Int) (x y : Bool) {m : List S36} (hx : Ev (fun k => burinref02_Has.f k a at_) x) (hy : Ev (fun k => burinref02_Has.f k b at_) y)
  (h : Ev (fun k => burinref02_Make.j2 k op a b p at_ next (madeBy op x y)) m) : Ev (fun k => burinref02_Make.j1 k op a b p at_ next) m := by
 refine Ev.step (fun k => by simp only [burinref02_Make.j1]; exact rfl) (Ev.bind hx (Ev.bind hy ?_))
 refine Ev.congr (fun k => ?_) h
 rcases hop with rfl | rfl | rfl <;> cases x <;> cases y <;> rfl
theorem make_l0 (op : Int) (hop : op = 1 ∨ op = 2 ∨ op = 3) (a b : List (Int × Int)) (ha : a.length ≤ 900000) (hb : b.length ≤ 900000) (d : Nat) : ∀ (at_ : Int) (p : List (Int × Int)), 0 ≤ at_ → at_ ≤ 1114112 → (1114112 - at_).toNat ≤ d → Upto (fun r => madeBy op (hasL a r) (hasL b r)) at_ p →
  ∃ q, Upto (fun r => madeBy op (hasL a r) (hasL b r)) 1114112 q ∧ Ev (fun k => burinref02_Make.l0 k op (a.map toRg) (b.map toRg) (p.map toRg) at_) (q.map toRg) := by
 induction d with
 | zero =>
  intro at_ p h0 h1 hd hU
  have e : at_ = 1114112 := by omega
  subst e
  refine ⟨p, hU, Ev.step (fun k => ?_) (Ev.now _)⟩
  simp only [burinref02_Make.l0]
  rw [if_neg (by omega)]
 | succ d ih =>
  intro at_ p h0 h1 hd hU
  by_cases c : at_ ≤ 1114111
  ·have ea := edge_in a c
   have eb := edge_in b c
   obtain ⟨next, hnext⟩ : ∃ n, n = if edgeL b at_ < edgeL a at_ then edgeL b at_ else edgeL a at_ := ⟨_, rfl⟩
   have hn1 : at_ < next ∧ next ≤ 1114112 ∧ next ≤ edgeL a at_ ∧ next ≤ edgeL b at_ := by
    rw [hnext]; split <;> omega
   obtain ⟨q, hq, hj⟩ := make_j2 op a b (fun r => madeBy op (hasL a r) (hasL b r)) p at_ next hU h0 hn1.1 hn1.2.1 (fun r r0 r1 => by
    show madeBy op (hasL a r) (hasL b r) = madeBy op (hasL a at_) (hasL b at_)
    rw [edge_has h0 r0 (show r < edgeL a at_ by omega), edge_has h0 r0 (show r < edgeL b at_ by omega)])
   obtain ⟨m, hm, hE⟩ := ih next q (by omega) hn1.2.1 (by omega) hq
   refine ⟨m, hm, Ev.step (fun k => by simp only [burinref02_Make.l0]; rw [if_pos c]) (Ev.bind (edge_ev a at_ h0 ha) (Ev.bind (edge_ev b at_ h0 hb) ?_))⟩
   have key : Ev (fun k => burinref02_Make.j1 k op (a.map toRg) (b.map toRg) (p.map toRg) at_ next) (m.map toRg) :=
    make_j1 op hop _ _ _ _ _ _ _ (rhas_ev a at_ ha) (rhas_ev b at_ hb) (Ev.step hj hE)
   refine Ev.congr (fun k => ?_) key
   rw [hnext]
   split <;> rfl
  ·have e : at_ = 1114112 := by omega
   subst e
   refine ⟨p, hU, Ev.step (fun k => ?_) (Ev.now _)⟩
   simp only [burinref02_Make.l0]
   rw [if_neg (by omega)]
theorem make_ev (op : Int) (hop : op = 1 ∨ op = 2 ∨ op = 3) (a b : List (Int × Int)) (ha : a.length ≤ 900000) (hb : b.length ≤ 900000) (m : List (Int × Int)) (hm : Nrm m) (hin : ∀ r, inL m r = madeBy op (hasL a r) (hasL b r)) :
  Ev (fun k => burinref02_Make.f k op (a.map toRg) (b.map toRg)) (m.map toRg) := by
 obtain ⟨q, hq, hE⟩ := make_l0 op hop a b ha hb 1114112 0 [] (by omega) (by omega) (by omega) (Upto.start _)
 have e : q = m := nrm_ext hq.nrm hm (fun r => by
  rw [hq.last r, hin r]
  unfold hasL madeBy
  cases decide (0 ≤ r) <;> cases decide (r ≤ 1114111) <;> simp)
 rw [← e]
 exact hE
theorem rnorm_ev (a : List (Int × Int)) (ha : a.length ≤ 900000) : Ev (fun k => burinref02_Norm.f k (a.map toRg)) ((normL a).map toRg) := by
 unfold burinref02_Norm.f
 refine Ev.bind (make_ev 1 (.inl rfl) a [] ha (by simp) (normL a) (normL_nrm a) (fun r => ?_)) (Ev.now _)
 rw [normL_in]
 have : hasL [] r = false := by unfold hasL; rw [inL_nil]; simp
 rw [this]
 unfold madeBy
 simp
/-- Of a text's first byte. -/
theorem ex01 (c : UInt8) (t : List UInt8) : ((ByteArray.mk ⟨c :: t⟩).extract 0 1).toList = [c] := by
 rw [ByteArray.toList_eq, ByteArray.data_extract]
 simp
theorem ex1n (c : UInt8) (t : List UInt8) : (ByteArray.mk ⟨c :: t⟩).extract 1 (t.length + 1) = ⟨⟨t⟩⟩ := by
 apply ByteArray.ext
 rw [ByteArray.data_extract]
 simp
theorem sz_cons (c : UInt8) (t : List UInt8) : (ByteArray.mk ⟨c :: t⟩).size = t.length + 1 := by
 simp [ByteArray.size]
theorem caret_app (s : ByteArray) : (⟨#[94]⟩ : ByteArray) ++ s = ⟨⟨94 :: s.data.toList⟩⟩ := by
 apply ByteArray.ext
 rw [ByteArray.data_append]
 apply Array.ext'
 simp
theorem prefix_cons (c : UInt8) (t : List UInt8) : stringslite_HasPrefix.f ⟨⟨c :: t⟩⟩ (⟨#[94]⟩ : ByteArray) = some (c == 94) := by
 unfold stringslite_HasPrefix.f
 have h1 : (⟨#[94]⟩ : ByteArray).size = 1 := rfl
 have h2 : (⟨#[94]⟩ : ByteArray).toList = [94] := by rw [ByteArray.toList_eq]
 rw [sz_cons, h1, if_pos (by omega), if_pos (by omega), if_pos (by omega), h2, show (((1 : Nat) : Int)).toNat = 1 from rfl, ex01]
 simp
theorem cut_cons (c : UInt8) (t : List UInt8) : strings_CutPrefix.f ⟨⟨c :: t⟩⟩ (⟨#[94]⟩ : ByteArray) = some (if c = 94 then ((⟨⟨t⟩⟩ : ByteArray), true) else (⟨⟨c :: t⟩⟩, false)) := by
 unfold strings_CutPrefix.f stringslite_CutPrefix.f
 rw [prefix_cons, Option.bind_some]
 have h1 : (⟨#[94]⟩ : ByteArray).size = 1 := rfl
 by_cases h : c = 94
 ·rw [if_pos (by simpa using h), h1, if_pos (by omega), sz_cons, if_pos (by omega), show (((1 : Nat) : Int)).toNat = 1 from rfl, ex1n, if_pos h]
  rfl
 ·rw [if_neg (by simpa using h), if_neg h]
  rfl
theorem cut_nil : strings_CutPrefix.f ⟨⟨[]⟩⟩ (⟨#[94]⟩ : ByteArray) = some ((⟨⟨[]⟩⟩ : ByteArray), false) := by
 unfold strings_CutPrefix.f stringslite_CutPrefix.f stringslite_HasPrefix.f
 rw [if_neg (by decide)]
 rfl
/-- Whether a text begins with the sign for what a set lacks. -/
def caret (s : ByteArray) : Bool := s.data.toList.head? == some 94
theorem cut_plain {s : ByteArray} (h : caret s = false) : strings_CutPrefix.f s (⟨#[94]⟩ : ByteArray) = some (s, false) := by
 obtain ⟨⟨l⟩⟩ := s
 cases l with
 | nil => exact cut_nil
 | cons c t =>
  rw [cut_cons, if_neg]
  intro e
  subst e
  simp [caret] at h
theorem cut_caret (s : ByteArray) : strings_CutPrefix.f ((⟨#[94]⟩ : ByteArray) ++ s) (⟨#[94]⟩ : ByteArray) = some (s, true) := by
 rw [caret_app, cut_cons, if_pos rfl]
theorem splitB_small (sep : ByteArray) (k : Nat) : ∀ s : ByteArray, ∀ x ∈ Lib.splitB sep 0 k s, x.size ≤ s.size := by
 induction k with
 | zero =>
  intro s x hx
  obtain rfl : x = s := by simpa [Lib.splitB] using hx
  exact Nat.le_refl _
 | succ k ih =>
  intro s x hx
  unfold Lib.splitB at hx
  split at hx
  ·obtain rfl : x = s := by simpa using hx
   exact Nat.le_refl _
  ·rcases List.mem_cons.1 hx with rfl | hx
   ·rw [ByteArray.size_extract]; omega
   ·have := ih _ x hx
    rw [ByteArray.size_extract] at this
    omega
theorem split_small {s : ByteArray} (h : s.size ≤ 990) : SmallPieces s ∧ splitN s ≤ 1000 := by
 have hle := Lib.countB_le ⟨#[32]⟩ (by decide) s.size s (Nat.le_refl _)
 refine ⟨⟨by omega, fun x hx => ?_⟩, by unfold splitN; omega⟩
 have := splitB_small ⟨#[32]⟩ _ s x hx
 omega
/-- A table of names: short ones, of which none begins with that sign. -/
def tabOk (l : List S105) : Bool := decide (0 < l.length) && l.all fun x => decide (x.f1.size ≤ 990) && !caret x.f0
theorem tab_good {l : List S105} (h : tabOk l = true) : goodNm (l.map ofNm) = true ∧ ∀ x ∈ l.map ofNm, caret x.1 = false := by
 unfold tabOk at h
 simp only [Bool.and_eq_true, decide_eq_true_eq, List.all_eq_true, Bool.not_eq_true'] at h
 refine ⟨?_, fun x hx => ?_⟩
 ·unfold goodNm
  simp only [Bool.and_eq_true, decide_eq_true_eq, List.all_eq_true, List.length_map]
  refine ⟨h.1, fun x hx => ?_⟩
  obtain ⟨y, hy, rfl⟩ := List.mem_map.1 hx
  obtain ⟨h1, h2⟩ := split_small (s := (ofNm y).2) (h.2 y hy).1
  exact ⟨⟨h1.1, h1.2⟩, h2⟩
 ·obtain ⟨y, hy, rfl⟩ := List.mem_map.1 hx
  exact (h.2 y hy).2
theorem find_ok {l : List S105} (h : tabOk l = true) (s : ByteArray) : class_find.f l s = some ((findV normL (l.map ofNm) s).1.map toRg, (findV normL (l.map ofNm) s).2) := by
 unfold class_find.f
 rw [if_pos (tab_good h).1]
theorem find_fact {l : List S105} (h : tabOk l = true) (s : ByteArray) : Nrm (findV normL (l.map ofNm) s).1 ∧ (findV normL (l.map ofNm) s).1.length ≤ 900000 ∧ ((findV normL (l.map ofNm) s).2 = 0 ∨ findV normL (l.map ofNm) s = ([], 70)) := by
 obtain ⟨_, hg⟩ := good_nm (tab_good h).1
 unfold findV
 cases hf : (l.map ofNm).find? (isNm s) with
 | none => exact ⟨Nrm.nil, by simp, Or.inr rfl⟩
 | some x => exact ⟨normL_nrm _, Nat.le_trans (normL_len _) (hg x (List.mem_of_find?_eq_some hf)).2.2, Or.inl rfl⟩
/-- What a name stands for with the sign ahead. -/
def lackV (l : List S105) (s : ByteArray) : List (Int × Int) × Int := if (findV normL (l.map ofNm) s).2 = 0 then (notL (findV normL (l.map ofNm) s).1, 0) else ([], 70)
theorem turned_plain {l : List S105} (h : tabOk l = true) {s : ByteArray} (hs : caret s = false) : Ev (fun k => class_turned.f k l s) ((findV normL (l.map ofNm) s).1.map toRg, (findV normL (l.map ofNm) s).2) := by
 refine ev_from 0 fun k _ => ?_
 unfold class_turned.f
 rw [cut_plain hs, Option.bind_some, find_ok h, Option.bind_some]
 dsimp only
 split <;> rfl
theorem turned_caret {l : List S105} (h : tabOk l = true) (s : ByteArray) : Ev (fun k => class_turned.f k l ((⟨#[94]⟩ : ByteArray) ++ s)) ((lackV l s).1.map toRg, (lackV l s).2) := by
 obtain ⟨hN, hl, h2⟩ := find_fact h s
 obtain ⟨K, hK⟩ := not_ev ((findV normL (l.map ofNm) s).1.map toRg) (by rw [List.length_map]; exact hl)
 refine ev_from K fun k hk => ?_
 unfold class_turned.f
 rw [cut_caret, Option.bind_some, find_ok h, Option.bind_some]
 dsimp only
 unfold lackV
 rcases h2 with h2 | h2
 ·have hK' : ranges_Not.f k _ = _ := hK k hk
  rw [if_pos h2, if_pos h2, if_pos rfl, hK', Option.bind_some, map_forth, h2]
 ·rw [h2]
  rfl
/-- Up to a byte, and what stands behind it. -/
def cutL (c : UInt8) : List UInt8 → List UInt8 × Option (List UInt8)
 | [] => ([], none)
 | b :: t => if b = c then ([], some t) else ((b :: (cutL c t).1), (cutL c t).2)
theorem cutL_spec (c : UInt8) : ∀ s : List UInt8, (Lib.indexByte s c = -1 ∧ cutL c s = (s, none)) ∨ ∃ i : Nat, Lib.indexByte s c = i ∧ cutL c s = (s.take i, some (s.drop (i + 1)))
 | [] => .inl ⟨rfl, rfl⟩
 | b :: t => by
  unfold Lib.indexByte cutL
  by_cases h : b = c
  ·refine .inr ⟨0, ?_, ?_⟩
   ·rw [if_pos (by simpa using h)]; rfl
   ·rw [if_pos h]; rfl
  ·rw [if_neg (by simpa using h), if_neg h]
   rcases cutL_spec c t with ⟨h1, h2⟩ | ⟨i, h1, h2⟩
   ·refine .inl ⟨by rw [h1]; rfl, by rw [h2]⟩
   ·refine .inr ⟨i + 1, ?_, by rw [h2]; rfl⟩
    rw [h1, if_neg (by rw [beq_iff_eq]; omega)]
    omega
/-- The pieces between blanks. -/
def splF : Nat → List UInt8 → List (List UInt8)
 | 0, s => [s]
 | k + 1, s => match (cutL 32 s).2 with
  | none => [(cutL 32 s).1]
  | some t => (cutL 32 s).1 :: splF k t
def cntF : Nat → List UInt8 → Nat
 | 0, _ => 0
 | k + 1, s => match (cutL 32 s).2 with
  | none => 0
  | some t => 1 + cntF k t
theorem splF_eq : ∀ (k : Nat) (s : List UInt8), Lib.splitK [32] 0 k s = splF k s
 | 0, s => rfl
 | k + 1, s => by
  unfold Lib.splitK splF
  rw [Lib.index_one]
  rcases cutL_spec 32 s with ⟨h1, h2⟩ | ⟨i, h1, h2⟩
  ·rw [h1, h2]; rfl
  ·rw [h1, h2, if_neg (by rw [beq_iff_eq]; omega)]
   have e : ((i : Int)).toNat = i := rfl
   show s.take (i + 0) :: Lib.splitK [32] 0 k (s.drop (i + 1)) = s.take i :: splF k (s.drop (i + 1))
   rw [splF_eq k, Nat.add_zero]
theorem cntF_eq : ∀ (k : Nat) (s : List UInt8), Lib.countFrom [32] k s = cntF k s
 | 0, s => rfl
 | k + 1, s => by
  unfold Lib.countFrom cntF
  rw [Lib.index_one]
  rcases cutL_spec 32 s with ⟨h1, h2⟩ | ⟨i, h1, h2⟩
  ·rw [h1, h2]; rfl
  ·rw [h1, h2, if_neg (by rw [beq_iff_eq]; omega)]
   show 1 + Lib.countFrom [32] k (s.drop (i + 1)) = 1 + cntF k (s.drop (i + 1))
   rw [cntF_eq k]
def numL (l : List UInt8) : Int := l.foldl numStep 0
def pieceL (l : List UInt8) : Int × Int := match (cutL 45 l).2 with
 | none => (numL (cutL 45 l).1, numL (cutL 45 l).1)
 | some b => (numL (cutL 45 l).1, numL b)
theorem pieceV_eq (s : ByteArray) : pieceV s = pieceL s.data.toList := by
 unfold pieceV cutV pieceL numV
 rcases cutL_spec 45 s.data.toList with ⟨h1, h2⟩ | ⟨i, h1, h2⟩
 ·rw [h1, h2, if_neg (by decide)]
  rfl
 ·rw [h1, h2, if_pos (by omega)]
  have e : ((i : Int)).toNat = i := rfl
  dsimp only
  rw [if_pos rfl, e, Lib.extract_from_zero]
  unfold numL
  congr 2
  rw [ByteArray.data_extract]
  simp only [Array.toList_extract, List.extract_eq_take_drop]
  rw [List.take_of_length_le]
  rw [List.length_drop]
  exact Nat.le_of_eq rfl
def piecesL (s : List UInt8) : List (Int × Int) := (splF (cntF (s.length + 1) s) s).map pieceL
theorem piecesV_eq (s : ByteArray) : piecesV s = piecesL s.data.toList := by
 unfold piecesV piecesL splitV
 have h1 : Lib.countB s ⟨#[32]⟩ = cntF (s.data.toList.length + 1) s.data.toList := cntF_eq _ _
 have h2 := Lib.splitB_data ⟨#[32]⟩ 0 (Lib.countB s ⟨#[32]⟩) s
 rw [show (⟨#[32]⟩ : ByteArray).data.toList = [32] from rfl, splF_eq, h1] at h2
 rw [← h2, List.map_map, h1]
 exact List.map_congr_left fun x _ => pieceV_eq x
/-- A table looked up. -/
def look {β : Type} : List (List UInt8 × β) → List UInt8 → Option β
 | [], _ => none
 | x :: t, nm => if nm = x.1 then some x.2 else look t nm
theorem look_map {β γ : Type} (g : β → γ) (nm : List UInt8) : ∀ l : List (List UInt8 × β), look (l.map fun x => (x.1, g x.2)) nm = (look l nm).map g
 | [] => rfl
 | x :: t => by
  rw [List.map_cons]
  unfold look
  by_cases h : nm = x.1
  ·rw [if_pos h, if_pos h]; rfl
  ·rw [if_neg h, if_neg h]; exact look_map g nm t
theorem look_mem {β : Type} {nm : List UInt8} {v : β} : ∀ {l : List (List UInt8 × β)}, look l nm = some v → ∃ x ∈ l, x.2 = v
 | [], h => by cases h
 | x :: t, h => by
  unfold look at h
  by_cases e : nm = x.1
  ·rw [if_pos e] at h; exact ⟨x, List.mem_cons_self, Option.some.inj h⟩
  ·rw [if_neg e] at h
   obtain ⟨y, hy, hv⟩ := look_mem h
   exact ⟨y, List.mem_cons_of_mem _ hy, hv⟩
def tabL (l : List S105) : List (List UInt8 × List (Int × Int)) := l.map fun x => (x.f0.data.toList, piecesL x.f1.data.toList)
def ansV : Option (List (Int × Int)) → List (Int × Int) × Int
 | none => ([], 70)
 | some p => (normL p, 0)
theorem find_look (s : ByteArray) : ∀ l : List S105, findV normL (l.map ofNm) s = ansV (look (tabL l) s.toList)
 | [] => rfl
 | x :: t => by
  have ih := find_look s t
  unfold findV at ih ⊢
  rw [List.map_cons, List.find?_cons]
  show _ = ansV (look ((x.f0.data.toList, piecesL x.f1.data.toList) :: tabL t) s.toList)
  unfold look isNm
  by_cases h : s.toList = x.f0.data.toList
  ·rw [if_pos h]
   have : ((ofNm x).1.toList == s.toList) = true := by rw [h, beq_iff_eq, ByteArray.toList_eq]; rfl
   rw [this]
   show (normL (piecesV x.f1), (0 : Int)) = _
   rw [piecesV_eq]
   rfl
  ·rw [if_neg h]
   have : ((ofNm x).1.toList == s.toList) = false := by
    rw [beq_eq_false_iff_ne]
    intro e
    exact h (e.symm.trans (ByteArray.toList_eq _))
   rw [this]
   exact ih
/-- The document's tables. -/
def colonT : List (List UInt8 × List Int) := [([97, 108, 110, 117, 109], [48, 57, 65, 90, 97, 122]), ([97, 108, 112, 104, 97], [65, 90, 97, 122]), ([97, 115, 99, 105, 105], [0, 127]), ([98, 108, 97, 110, 107], [9, 9, 32, 32]), ([99, 110, 116, 114, 108], [0, 31, 127, 127]), ([100, 105, 103, 105, 116], [48, 57]), ([103, 114, 97, 112, 104], [33, 126]), ([108, 111, 119, 101, 114], [97, 122]), ([112, 114, 105, 110, 116], [32, 126]), ([112, 117, 110, 99, 116], [33, 47, 58, 64, 91, 96, 123, 126]), ([115, 112, 97, 99, 101], [9, 13, 32, 32]), ([117, 112, 112, 101, 114], [65, 90]), ([119, 111, 114, 100], [48, 57, 65, 90, 95, 95, 97, 122]), ([120, 100, 105, 103, 105, 116], [48, 57, 65, 70, 97, 102])]
def propertyT : List (List UInt8 × List Int) := [([65, 110, 121], [0, 1114111]), ([67, 121, 114, 105, 108, 108, 105, 99], [1024, 1156, 1159, 1327]), ([71, 114, 101, 101, 107], [880, 883, 885, 887, 890, 893, 895, 895, 900, 900, 902, 902, 904, 906, 908, 908, 910, 929, 931, 993, 1008, 1023, 8486, 8486]), ([76], [65, 90, 192, 214, 216, 222, 376, 376, 913, 929, 931, 939, 1024, 1071, 97, 122, 181, 181, 223, 246, 248, 255, 940, 974, 1072, 1119, 383, 383, 65, 90, 97, 122, 170, 170, 186, 186, 192, 214, 216, 246, 248, 591, 880, 883, 885, 887, 890, 893, 895, 895, 900, 900, 902, 902, 904, 906, 908, 908, 910, 929, 931, 993, 1008, 1023, 8486, 8486, 1024, 1156, 1159, 1327]), ([76, 97, 116, 105, 110], [65, 90, 97, 122, 170, 170, 186, 186, 192, 214, 216, 246, 248, 591]), ([76, 108], [97, 122, 181, 181, 223, 246, 248, 255, 940, 974, 1072, 1119, 383, 383]), ([76, 117], [65, 90, 192, 214, 216, 222, 376, 376, 913, 929, 931, 939, 1024, 1071]), ([78, 100], [48, 57, 1632, 1641, 1776, 1785, 2406, 2415])]
theorem all_in (r : Int) : hasL [((0 : Int), (1114111 : Int))] r = (decide (0 ≤ r) && decide (r ≤ 1114111)) := by
 unfold hasL
 rw [inL_cons, inL_nil]
 cases decide (0 ≤ r) <;> cases decide (r ≤ 1114111) <;> rfl
theorem rnot_ev (a : List (Int × Int)) (ha : a.length ≤ 900000) : Ev (fun k => burinref02_Not.f k (a.map toRg)) ((notL a).map toRg) := by
 unfold burinref02_Not.f
 refine Ev.bind (Ev.now _) (Ev.bind (make_ev 3 (.inr (.inr rfl)) [(0, 1114111)] a (by simp) ha (notL a) (notL_nrm a) (fun r => ?_)) (Ev.now _))
 rw [notL_in, all_in]
 unfold madeBy hasL
 cases decide (0 ≤ r) <;> cases decide (r ≤ 1114111) <;> cases inL a r <;> rfl
/-- Numbers, two and two. -/
def pairs : List Int → List (Int × Int)
 | a :: b :: t => (a, b) :: pairs t
 | _ => []
theorem pairs_len : ∀ n : List Int, (pairs n).length ≤ n.length
 | [] => by simp [pairs]
 | [a] => by simp [pairs]
 | a :: b :: t => by have := pairs_len t; simp [pairs]; omega
theorem list_l0 (n : List Int) (hn : n.length ≤ 100000) (d : Nat) : ∀ (i : Nat) (p : List (Int × Int)), n.length - i ≤ d → p.length ≤ i → i ≤ n.length → Ev (fun k => burinref04_list.l0 k n (p.map toRg) i) ((normL (p ++ pairs (n.drop i))).map toRg) := by
 induction d using Nat.strongRecOn with
 | _ d ih =>
 intro i p hd hp hi
 have w1 : wrap64 ((i : Int) + 1) = (i : Int) + 1 := wrap_in (by omega) (by omega)
 have w2 : wrap64 ((i : Int) + 2) = ((i + 2 : Nat) : Int) := by rw [wrap_in (by omega) (by omega)]; omega
 by_cases hlt : i + 1 < n.length
 ·have e : n.drop i = n[i] :: n[i + 1] :: n.drop (i + 2) := by
   rw [List.drop_eq_getElem_cons (by omega), List.drop_eq_getElem_cons hlt]
  have r0 : rd n (i : Int) = n[i] := by
   unfold rd
   rw [show ((i : Int)).toNat = i from rfl, List.getD_eq_getElem?_getD, List.getElem?_eq_getElem (by omega)]
   rfl
  have r1 : rd n ((i : Int) + 1) = n[i + 1] := by
   unfold rd
   rw [show ((i : Int) + 1).toNat = i + 1 from rfl, List.getD_eq_getElem?_getD, List.getElem?_eq_getElem hlt]
   rfl
  have h := ih (d - 1) (by omega) (i + 2) (p ++ [(n[i], n[i + 1])]) (by omega) (by simp; omega) (by omega)
  rw [List.append_assoc, List.singleton_append] at h
  rw [e]
  show Ev _ ((normL (p ++ (n[i], n[i + 1]) :: pairs (n.drop (i + 2)))).map toRg)
  refine Ev.step (fun k => ?_) h
  rw [burinref04_list.l0, w1, if_pos (by omega), if_pos (by omega), if_pos (by omega), if_pos (by omega), if_pos (by rw [List.length_map]; omega), r0, r1, w2]
  simp only [List.map_append, List.map_cons, List.map_nil]
  rfl
 ·have e : pairs (n.drop i) = [] := by
   have hl : (n.drop i).length ≤ 1 := by rw [List.length_drop]; omega
   generalize n.drop i = q at hl ⊢
   match q, hl with
   | [], _ => rfl
   | [a], _ => rfl
  rw [e, List.append_nil]
  refine Ev.step (fun k => ?_) (Ev.bind (rnorm_ev p (by omega)) (Ev.now _))
  rw [burinref04_list.l0, w1, if_neg (by omega)]
theorem list_ev (n : List Int) (hn : n.length ≤ 100000) : Ev (fun k => burinref04_list.f k n) ((normL (pairs n)).map toRg) := list_l0 n hn n.length 0 [] (by omega) (by simp) (by omega)
theorem bare_caret (t : ByteArray) : burinref04_bare.f ((⟨#[94]⟩ : ByteArray) ++ t) = some (t, true) := by
 obtain ⟨⟨l⟩⟩ := t
 rw [caret_app]
 unfold burinref04_bare.f
 have hb : bt ⟨⟨94 :: l⟩⟩ 0 = 94 := by
  unfold bt
  rw [dif_pos (by simp [sz_cons])]
  rfl
 rw [sz_cons, if_pos (by omega), if_pos (by omega), hb, if_pos rfl, if_pos (by omega), ex1n]
theorem bare_plain {s : ByteArray} (h : caret s = false) : burinref04_bare.f s = some (s, false) := by
 obtain ⟨⟨l⟩⟩ := s
 unfold burinref04_bare.f
 cases l with
 | nil => rw [if_neg (by decide)]
 | cons c t =>
  have hb : bt ⟨⟨c :: t⟩⟩ 0 = (c.toNat : Int) := by
   unfold bt
   rw [dif_pos (by simp [sz_cons])]
   rfl
  rw [sz_cons, if_pos (by omega), if_pos (by omega), hb, if_neg]
  intro e
  have : c = 94 := by
   apply UInt8.toNat_inj.1
   show c.toNat = 94
   omega
  subst this
  simp [caret] at h
def ansN : Option (List Int) → List Int × Bool
 | none => ([], false)
 | some n => (n, true)
/-- What the document's answer does with a table. -/
def refC (k : Nat) (s : ByteArray) (tn : List (List UInt8 × List Int)) : Option (List S36 × Int) := (burinref04_bare.f s).bind fun bt309 => ((some (ansN (look tn bt309.1.toList))).bind fun bt311 => (if bt311.2 = true then (if bt309.2 = true then ((burinref04_list.f k bt311.1).bind fun t315 => ((burinref02_Not.f k t315).bind fun t318 => (some (t318, 0)))) else ((burinref04_list.f k bt311.1).bind fun t321 => (some (t321, 0)))) else (some (([] : List S36), 70))))
theorem both_ev {l : List S105} {tn : List (List UInt8 × List Int)} (ht : tabOk l = true) (htv : tabL l = tn.map fun x => (x.1, pairs x.2)) (hn : ∀ x ∈ tn, x.2.length ≤ 1000) (s : ByteArray) :
  ∃ (L : List S36) (e : Int), L.length ≤ 2000000 ∧ Ev (fun k => class_turned.f k l s) (L, e) ∧ Ev (fun k => refC k s tn) (L, e) := by
 have key : ∀ t : ByteArray, (look tn t.toList = none ∧ findV normL (l.map ofNm) t = ([], 70)) ∨ ∃ n : List Int, n.length ≤ 1000 ∧ look tn t.toList = some n ∧ findV normL (l.map ofNm) t = (normL (pairs n), 0) := fun t => by
  rw [find_look, htv, look_map]
  cases hlk : look tn t.toList with
  | none => exact .inl ⟨rfl, rfl⟩
  | some n =>
   obtain ⟨x, hx, rfl⟩ := look_mem hlk
   exact .inr ⟨x.2, hn x hx, rfl, rfl⟩
 cases hca : caret s with
 | true =>
  obtain ⟨t, rfl⟩ : ∃ t, s = (⟨#[94]⟩ : ByteArray) ++ t := by
   obtain ⟨⟨l⟩⟩ := s
   cases l with
   | nil => cases hca
   | cons c t =>
    refine ⟨⟨⟨t⟩⟩, ?_⟩
    rw [caret_app]
    have : c = 94 := by simpa [caret] using hca
    rw [this]
  have g := turned_caret ht t
  unfold lackV at g
  rcases key t with ⟨h1, h2⟩ | ⟨n, hn, h1, h2⟩
  ·rw [h2] at g
   refine ⟨[], 70, by simp, g, ?_⟩
   unfold refC
   rw [bare_caret]
   simp only [Option.bind_some]
   rw [h1]
   exact Ev.now _
  ·rw [h2, if_pos rfl] at g
   have hl := normL_len (pairs n)
   have hp := pairs_len n
   refine ⟨(notL (normL (pairs n))).map toRg, 0, by rw [List.length_map]; have := notL_len (normL (pairs n)); omega, g, ?_⟩
   unfold refC
   rw [bare_caret]
   simp only [Option.bind_some]
   rw [h1]
   simp only [ansN, if_true]
   exact Ev.bind (list_ev n (by omega)) (Ev.bind (rnot_ev _ (by omega)) (Ev.now _))
 | false =>
  have g := turned_plain ht hca
  rcases key s with ⟨h1, h2⟩ | ⟨n, hn, h1, h2⟩
  ·rw [h2] at g
   refine ⟨[], 70, by simp, g, ?_⟩
   unfold refC
   rw [bare_plain hca]
   simp only [Option.bind_some]
   rw [h1]
   exact Ev.now _
  ·rw [h2] at g
   have hl := normL_len (pairs n)
   have hp := pairs_len n
   refine ⟨(normL (pairs n)).map toRg, 0, by rw [List.length_map]; omega, g, ?_⟩
   unfold refC
   rw [bare_plain hca]
   simp only [Option.bind_some]
   rw [h1]
   simp only [ansN, if_true, Bool.false_eq_true, if_false]
   exact Ev.bind (list_ev n (by omega)) (Ev.now _)
theorem tab_step {c : Prop} [Decidable c] {X A : Option (List Int × Bool)} {n : List Int} {B : Option (List Int)} (hx : X = some (n, true)) (h : A = some (ansN B)) : (if c then X else A) = some (ansN (if c then some n else B)) := by
 by_cases hc : c
 ·rw [if_pos hc, if_pos hc, hx]; rfl
 ·rw [if_neg hc, if_neg hc, h]
theorem property_tab (s : ByteArray) : burinref04_property.f s = some (ansN (look propertyT s.toList)) := by
 unfold burinref04_property.f propertyT
 simp only [look]
 repeat' first
  | refine tab_step rfl ?_
  | rfl
theorem colons_at : ∃ l, class_colons.f = some l ∧ tabOk l = true ∧ tabL l = colonT.map fun x => (x.1, pairs x.2) := ⟨_, rfl, by decide +kernel, by decide +kernel⟩
theorem properties_at : ∃ l, class_properties.f = some l ∧ tabOk l = true ∧ tabL l = propertyT.map fun x => (x.1, pairs x.2) := ⟨_, rfl, by decide +kernel, by decide +kernel⟩
theorem colon_tab (s : ByteArray) : burinref04_colon.f s = some (ansN (look colonT s.toList)) := by
 unfold burinref04_colon.f colonT
 simp only [look]
 repeat' first
  | refine tab_step rfl ?_
  | rfl
theorem rdigit_f (k : Nat) {c : Int} (h0 : 0 ≤ c) (h1 : c ≤ 255) : burinref07_Digit.f (k + 2) c = some (digV c) := by
 have w0 : wrap64 c = c := wr rfl (by omega) (by omega)
 unfold burinref07_Digit.f digV
 by_cases a : 48 ≤ c
 ·by_cases b : c ≤ 57
  ·rw [if_pos a, decide_eq_true b, if_pos ⟨a, b⟩, burinref07_Digit.j0, if_pos rfl, w0, wr (y := c - 48) rfl (by omega) (by omega)]
  ·rw [if_pos a, decide_eq_false b, if_neg (fun h => b h.2), burinref07_Digit.j0, if_neg (by decide)]
   by_cases d : 97 ≤ c
   ·by_cases e : c ≤ 102
    ·rw [if_pos d, decide_eq_true e, if_pos ⟨d, e⟩, burinref07_Digit.j1, if_pos rfl, w0, wr (y := c - 97) rfl (by omega) (by omega), wr (y := c - 87) (by omega) (by omega) (by omega)]
    ·rw [if_pos d, decide_eq_false e, if_neg (fun h => e h.2), burinref07_Digit.j1, if_neg (by decide), if_pos (by omega), if_neg (by omega), if_neg (by omega)]
   ·rw [if_neg d, if_neg (fun h => d h.1), burinref07_Digit.j1, if_neg (by decide)]
    by_cases f : 65 ≤ c
    ·by_cases g : c ≤ 70
     ·rw [if_pos f, if_pos g, if_pos ⟨f, g⟩, w0, wr (y := c - 65) rfl (by omega) (by omega), wr (y := c - 55) (by omega) (by omega) (by omega)]
     ·rw [if_pos f, if_neg g, if_neg (fun h => g h.2)]
    ·rw [if_neg f, if_neg (fun h => f h.1)]
 ·rw [if_neg a, if_neg (fun h => a h.1), if_neg (by omega), if_neg (by omega), burinref07_Digit.j0, if_neg (by decide), if_neg (by omega), burinref07_Digit.j1, if_neg (by decide), if_neg (by omega)]
theorem rletter_f {c : Int} : burinref07_Letter.f c = some (letB c) := letter_f (c := c)
theorem rlong_ev (s : List UInt8) : ∀ (l : List UInt8) (i : Nat) (r : Int), s.drop i = l → 3 ≤ i → i ≤ 9 → 0 ≤ r → r < 16 ^ (i - 3) → s.length ≤ 1000000 → Ev (fun k => burinref07_hex.l0 k ⟨⟨s⟩⟩ true i 6 r ((i : Int) - 3)) (hexLongV l i r)
 | [], i, r, h, h3, h9, h0, h1, hs => by
  have hl : s.length ≤ i := List.drop_eq_nil_iff.1 h
  refine Ev.step (f := fun k => burinref07_hex.j3 k ⟨⟨s⟩⟩ true i 6 r ((i : Int) - 3) false) (fun k => ?_) (Ev.step (fun k => ?_) (Ev.now _))
  ·rw [burinref07_hex.l0]
   by_cases e : (i : Int) - 3 = 6
   ·rw [if_pos e]; rfl
   ·rw [if_neg e]
  ·rw [burinref07_hex.j3, if_neg (by decide), sz, if_pos (by omega)]
   rfl
 | c :: t, i, r, h, h3, h9, h0, h1, hs => by
  obtain ⟨hb, hi, ht⟩ := bt_drop h
  have hc := u8_in c
  have hd := digV_in c.toNat
  have hr : r < 16777216 := Int.lt_of_lt_of_le h1 (by
   have : i - 3 = 0 ∨ i - 3 = 1 ∨ i - 3 = 2 ∨ i - 3 = 3 ∨ i - 3 = 4 ∨ i - 3 = 5 ∨ i - 3 = 6 := by omega
   rcases this with e | e | e | e | e | e | e <;> rw [e] <;> decide)
  have hj : ∀ b : Bool, b = decide ((c.toNat : Int) = 125 ∧ 3 < i ∧ r ≤ 1114111) → Ev (fun k => burinref07_hex.j4 k ⟨⟨s⟩⟩ true i 6 r ((i : Int) - 3) b) (hexLongV (c :: t) i r) := by
   intro b hb2
   unfold hexLongV
   by_cases g : (c.toNat : Int) = 125 ∧ 3 < i ∧ r ≤ 1114111
   ·rw [if_pos g]
    rw [decide_eq_true g] at hb2
    subst hb2
    refine Ev.step (fun k => ?_) (Ev.now _)
    rw [burinref07_hex.j4, if_pos rfl, wr (y := (i : Int) + 1) rfl (by omega) (by omega)]
   ·rw [if_neg g]
    rw [decide_eq_false g] at hb2
    subst hb2
    have hd2 : ∀ k, burinref07_hex.j4 (k + 2 + 1) ⟨⟨s⟩⟩ true i 6 r ((i : Int) - 3) false = if digV c.toNat < 0 then some (0, 0, 80) else if (i : Int) - 3 = 6 then some (0, 0, 80) else burinref07_hex.l0 (k + 2) ⟨⟨s⟩⟩ true (wrap64 ((i : Int) + 1)) 6 (wrap64 (wrap64 (r * 16) + digV c.toNat)) (wrap64 ((i : Int) - 3 + 1)) := fun k => by
     rw [burinref07_hex.j4, if_neg (by decide), if_pos (by omega), sz, if_pos (by omega), hb, rdigit_f _ hc.1 hc.2, Option.bind_some]
    by_cases e1 : digV c.toNat < 0
    ·rw [if_pos (.inl e1)]
     refine ⟨3, fun k hk => ?_⟩
     obtain ⟨m, rfl⟩ : ∃ m, k = m + 2 + 1 := ⟨k - 3, by omega⟩
     show burinref07_hex.j4 _ _ _ _ _ _ _ _ = _
     rw [hd2, if_pos e1]
    ·by_cases e2 : i = 9
     ·rw [if_pos (.inr e2)]
      refine ⟨3, fun k hk => ?_⟩
      obtain ⟨m, rfl⟩ : ∃ m, k = m + 2 + 1 := ⟨k - 3, by omega⟩
      show burinref07_hex.j4 _ _ _ _ _ _ _ _ = _
      rw [hd2, if_neg e1, if_pos (by omega)]
     ·rw [if_neg (fun h => h.elim e1 e2)]
      obtain ⟨K, hK⟩ := rlong_ev s t (i + 1) (16 * r + digV c.toNat) ht (by omega) (by omega) (by omega) (by rw [show i + 1 - 3 = (i - 3) + 1 by omega, Int.pow_succ]; omega) hs
      refine ⟨K + 3, fun k hk => ?_⟩
      obtain ⟨m, rfl⟩ : ∃ m, k = m + 2 + 1 := ⟨k - 3, by omega⟩
      have h2 := hK (m + 2) (by omega)
      show burinref07_hex.j4 _ _ _ _ _ _ _ _ = _
      rw [hd2, if_neg e1, if_neg (by omega), wr (y := r * 16) rfl (by omega) (by omega), wr (x := r * 16 + digV c.toNat) (y := 16 * r + digV c.toNat) (by omega) (by omega) (by omega), wr (x := (i : Int) + 1) (y := ((i + 1 : Nat) : Int)) (by omega) (by omega) (by omega), wr (x := (i : Int) - 3 + 1) (y := ((i + 1 : Nat) : Int) - 3) (by omega) (by omega) (by omega)]
      exact h2
  refine Ev.step (f := fun k => burinref07_hex.j3 k ⟨⟨s⟩⟩ true i 6 r ((i : Int) - 3) false) (fun k => ?_) (Ev.step (f := fun k => burinref07_hex.j4 k ⟨⟨s⟩⟩ true i 6 r ((i : Int) - 3) (decide ((c.toNat : Int) = 125 ∧ 3 < i ∧ r ≤ 1114111))) (fun k => ?_) (hj _ rfl))
  ·rw [burinref07_hex.l0]
   by_cases e : (i : Int) - 3 = 6
   ·rw [if_pos e]; rfl
   ·rw [if_neg e]
  ·rw [burinref07_hex.j3, if_neg (by decide), sz, if_neg (by omega), if_pos rfl, if_pos (by omega), if_pos (by omega), hb]
   by_cases g1 : (c.toNat : Int) = 125
   ·by_cases g2 : 3 < i
    ·rw [if_pos g1, if_pos (by omega), show decide ((c.toNat : Int) = 125 ∧ 3 < i ∧ r ≤ 1114111) = decide (r ≤ 1114111) from by rw [Bool.eq_iff_iff]; simp only [decide_eq_true_eq]; exact ⟨fun h => h.2.2, fun h => ⟨g1, g2, h⟩⟩]
    ·rw [if_pos g1, if_neg (by omega), decide_eq_false (fun h : (c.toNat : Int) = 125 ∧ 3 < i ∧ r ≤ 1114111 => g2 h.2.1)]
   ·rw [if_neg g1, decide_eq_false (fun h : (c.toNat : Int) = 125 ∧ 3 < i ∧ r ≤ 1114111 => g1 h.1)]
theorem rshort_ev (s : List UInt8) (h2 : 2 ≤ s.length) (hs : s.length ≤ 1000000) : Ev (fun k => burinref07_hex.l0 k ⟨⟨s⟩⟩ false 2 2 0 0) (hexShortV (s.drop 2)) := by
 have z := sz s
 have step : ∀ (k : Nat) (i : Int) (r q : Int), q < 2 → burinref07_hex.l0 (k + 2 + 1 + 1 + 1) ⟨⟨s⟩⟩ false i 2 r q = if i ≥ (s.length : Int) then some (0, 0, 82) else if 0 ≤ i then (if i < (s.length : Int) then ((burinref07_Digit.f (k + 2) (bt ⟨⟨s⟩⟩ i)).bind fun d => if d < 0 then some (0, 0, 80) else if q = 2 then some (0, 0, 80) else burinref07_hex.l0 (k + 2) ⟨⟨s⟩⟩ false (wrap64 (i + 1)) 2 (wrap64 (wrap64 (r * 16) + d)) (wrap64 (q + 1))) else none) else none := by
  intro k i r q hq
  rw [burinref07_hex.l0, if_neg (by omega), burinref07_hex.j3, if_neg Bool.false_ne_true, z]
  by_cases hi : i ≥ (s.length : Int)
  ·rw [if_pos hi, if_pos hi]
  ·rw [if_neg hi, if_neg hi, if_neg Bool.false_ne_true, burinref07_hex.j4, if_neg Bool.false_ne_true, z]
 have last : ∀ (k : Nat) (i : Int) (r : Int), burinref07_hex.l0 (k + 1 + 1) ⟨⟨s⟩⟩ false i 2 r 2 = some (r, i, 0) := by
  intro k i r
  rw [burinref07_hex.l0, if_pos rfl, burinref07_hex.j3, if_pos (by decide)]
 refine ⟨20, fun k hk => ?_⟩
 obtain ⟨m, rfl⟩ : ∃ m, k = (m + 3) + 2 + 1 + 1 + 1 := ⟨k - 8, by omega⟩
 show burinref07_hex.l0 _ _ _ _ _ _ _ = _
 cases h : s.drop 2 with
 | nil =>
  have : s.length ≤ 2 := List.drop_eq_nil_iff.1 h
  rw [step _ _ _ _ (by omega), if_pos (by omega)]
  rfl
 | cons a t =>
  obtain ⟨hb, hi, ht⟩ := bt_drop h
  have ha := u8_in a
  have hd := digV_in a.toNat
  rw [step _ _ _ _ (by omega), if_neg (by omega), if_pos (by omega), if_pos (by omega), show (2 : Int) = ((2 : Nat) : Int) from rfl, hb, rdigit_f _ ha.1 ha.2, Option.bind_some]
  by_cases e : digV a.toNat < 0
  ·rw [if_pos e]
   cases t with
   | nil => simp only [hexShortV]; rw [if_pos e]
   | cons b u => simp only [hexShortV]; rw [if_pos e]
  ·rw [if_neg e, if_neg (by decide), show wrap64 (wrap64 (0 * 16) + digV a.toNat) = digV a.toNat from by rw [wr (x := 0 * 16) (y := 0) rfl (by omega) (by omega)]; exact wr (by omega) (by omega) (by omega), wr (x := ((2 : Nat) : Int) + 1) (y := 3) rfl (by omega) (by omega), wr (x := (0 : Int) + 1) (y := 1) rfl (by omega) (by omega)]
   show burinref07_hex.l0 (m + 2 + 1 + 1 + 1) _ _ _ 2 _ _ = _
   rw [step _ _ _ _ (by omega)]
   cases t with
   | nil =>
    have : s.length ≤ 3 := List.drop_eq_nil_iff.1 ht
    rw [if_pos (by omega)]
    simp only [hexShortV]; rw [if_neg e]
   | cons b u =>
    obtain ⟨hb2, hi2, ht2⟩ := bt_drop ht
    have hb' := u8_in b
    have hd' := digV_in b.toNat
    rw [if_neg (by omega), if_pos (by omega), if_pos (by omega), show (3 : Int) = ((2 + 1 : Nat) : Int) from rfl, hb2, rdigit_f _ hb'.1 hb'.2, Option.bind_some]
    by_cases e2 : digV b.toNat < 0
    ·rw [if_pos e2]
     simp only [hexShortV]; rw [if_neg e, if_pos e2]
    ·rw [if_neg e2, if_neg (by decide), wr (y := digV a.toNat * 16) rfl (by omega) (by omega), wr (x := digV a.toNat * 16 + digV b.toNat) (y := 16 * digV a.toNat + digV b.toNat) (by omega) (by omega) (by omega), wr (x := ((2 + 1 : Nat) : Int) + 1) (y := 4) rfl (by omega) (by omega), wr (x := (1 : Int) + 1) (y := 2) rfl (by omega) (by omega), last]
     simp only [hexShortV]; rw [if_neg e, if_neg e2]
/-- The document's answer for an escape of a number. -/
theorem rnum_ev (s : List UInt8) (hs : s.length ≤ 1000000) : Ev (fun k => burinref07_Number.f k ⟨⟨s⟩⟩) (escV s) := by
 have z := sz s
 have bad : ∀ k, burinref07_Number.j0 (k + 1) ⟨⟨s⟩⟩ true = some (0, 0, 3) := fun k => by rw [burinref07_Number.j0, if_pos rfl]
 match s, z, hs, bad with
 | [], z, _, bad => exact Ev.congr (f := fun k => burinref07_Number.j0 k ⟨⟨[]⟩⟩ true) (fun k => by unfold burinref07_Number.f; rw [z]; rfl) (Ev.step bad (Ev.now _))
 | c :: t, z, hs, bad =>
  have hb : bt ⟨⟨c :: t⟩⟩ 0 = (c.toNat : Int) := (bt_drop (l := c :: t) (i := 0) rfl).1
  have hc := u8_in c
  have h00 : ∀ k, burinref07_Number.f k ⟨⟨c :: t⟩⟩ = burinref07_Number.j0 k ⟨⟨c :: t⟩⟩ ((c.toNat : Int) != 92) := fun k => by
   unfold burinref07_Number.f
   rw [z, if_neg (by simp only [List.length_cons]; omega), if_pos (by simp only [List.length_cons]; omega), hb]
  refine Ev.congr h00 ?_
  by_cases e : (c.toNat : Int) = 92
  ·rw [show ((c.toNat : Int) != 92) = false by rw [e]; rfl]
   cases t with
   | nil => exact Ev.step (f := fun _ => some (0, 0, 82)) (fun k => by rw [burinref07_Number.j0, if_neg (by decide), z, if_pos (by simp)]) (by simp only [escV]; rw [if_pos e]; exact Ev.now _)
   | cons d u =>
    have hd := u8_in d
    have hb1 : bt ⟨⟨c :: d :: u⟩⟩ 1 = (d.toNat : Int) := (bt_drop (l := c :: d :: u) (i := 1) rfl).1
    have wd : wrap64 (d.toNat : Int) = d.toNat := wr rfl (by omega) (by omega)
    have hhex : (d.toNat : Int) = 120 → Ev (fun k => burinref07_hex.f k ⟨⟨c :: d :: u⟩⟩) (if u.head? = some 123 then hexLongV u.tail 3 0 else hexShortV u) := by
     intro e2
     cases u with
     | nil =>
      refine Ev.congr (f := fun k => burinref07_hex.j0 k ⟨⟨[c, d]⟩⟩ false) (fun k => by unfold burinref07_hex.f; rw [z, if_neg (by simp)]) (Ev.step (f := fun k => burinref07_hex.j1 k ⟨⟨[c, d]⟩⟩ false 2 2) (fun k => by rw [burinref07_hex.j0, if_neg (by decide)]) (Ev.step (fun k => by rw [burinref07_hex.j1]) (rshort_ev [c, d] (by simp) hs)))
     | cons f v =>
      have hb2 : bt ⟨⟨c :: d :: f :: v⟩⟩ 2 = (f.toNat : Int) := (bt_drop (l := c :: d :: f :: v) (i := 2) rfl).1
      have hl2 : (2 : Int) < ((c :: d :: f :: v).length : Int) := by simp only [List.length_cons]; omega
      refine Ev.congr (f := fun k => burinref07_hex.j0 k ⟨⟨c :: d :: f :: v⟩⟩ ((f.toNat : Int) == 123)) (fun k => by unfold burinref07_hex.f; rw [z, if_pos hl2, if_pos hl2, hb2]) ?_
      by_cases e3 : (f.toNat : Int) = 123
      ·have hf : f = 123 := u8_eq (n := 123) e3 (by omega)
       rw [show ((f.toNat : Int) == 123) = true by rw [e3]; rfl, if_pos (by rw [hf]; rfl)]
       exact Ev.step (f := fun k => burinref07_hex.j1 k ⟨⟨c :: d :: f :: v⟩⟩ true 3 6) (fun k => by rw [burinref07_hex.j0, if_pos rfl]) (Ev.step (fun k => by rw [burinref07_hex.j1]; rfl) (rlong_ev (c :: d :: f :: v) v 3 0 rfl (by omega) (by omega) (by omega) (by decide) hs))
      ·rw [show ((f.toNat : Int) == 123) = false from beq_eq_false_iff_ne.mpr e3, if_neg (by simp; intro h; subst h; exact e3 rfl)]
       exact Ev.step (f := fun k => burinref07_hex.j1 k ⟨⟨c :: d :: f :: v⟩⟩ false 2 2) (fun k => by rw [burinref07_hex.j0, if_neg (by decide)]) (Ev.step (fun k => by rw [burinref07_hex.j1]) (rshort_ev (c :: d :: f :: v) (by simp) hs))
    have h0 : ∀ k, burinref07_Number.j0 (k + 1) ⟨⟨c :: d :: u⟩⟩ false = match plainV d.toNat with
      | some v => some (v, 2, 0)
      | none => if (d.toNat : Int) = 120 then burinref07_hex.f k ⟨⟨c :: d :: u⟩⟩ else if (d.toNat : Int) < 33 ∨ (d.toNat : Int) > 126 ∨ letB d.toNat = true ∨ 48 ≤ (d.toNat : Int) ∧ (d.toNat : Int) ≤ 57 then some (0, 0, 80) else some ((d.toNat : Int), 2, 0) := fun k => by
     rw [burinref07_Number.j0, if_neg (by decide), z, if_neg (by simp only [List.length_cons]; omega), if_pos (by simp only [List.length_cons]; omega), hb1, wd, rletter_f]
     unfold plainV
     by_cases g1 : (d.toNat : Int) = 97
     ·rw [if_pos g1, if_pos g1]
     rw [if_neg g1, if_neg g1]
     by_cases g2 : (d.toNat : Int) = 102
     ·rw [if_pos g2, if_pos g2]
     rw [if_neg g2, if_neg g2]
     by_cases g3 : (d.toNat : Int) = 116
     ·rw [if_pos g3, if_pos g3]
     rw [if_neg g3, if_neg g3]
     by_cases g4 : (d.toNat : Int) = 110
     ·rw [if_pos g4, if_pos g4]
     rw [if_neg g4, if_neg g4]
     by_cases g5 : (d.toNat : Int) = 114
     ·rw [if_pos g5, if_pos g5]
     rw [if_neg g5, if_neg g5]
     by_cases g6 : (d.toNat : Int) = 118
     ·rw [if_pos g6, if_pos g6]
     rw [if_neg g6, if_neg g6]
     by_cases g7 : (d.toNat : Int) = 120
     ·rw [if_pos g7]
      dsimp only
      rw [if_pos g7]
      cases burinref07_hex.f k ⟨⟨c :: d :: u⟩⟩ <;> rfl
     rw [if_neg g7]
     dsimp only
     rw [if_neg g7]
     by_cases g8 : (d.toNat : Int) < 33
     ·rw [if_pos g8, if_pos (.inl g8)]
     rw [if_neg g8]
     by_cases g9 : (d.toNat : Int) > 126
     ·rw [if_pos g9, if_pos (.inr (.inl g9))]
     rw [if_neg g9, Option.bind_some]
     by_cases g10 : letB d.toNat = true
     ·rw [if_pos g10, if_pos (.inr (.inr (.inl g10)))]
     rw [if_neg g10]
     by_cases g11 : (d.toNat : Int) ≥ 48
     ·by_cases g12 : (d.toNat : Int) ≤ 57
      ·rw [if_pos g11, if_pos g12, if_pos (.inr (.inr (.inr ⟨g11, g12⟩)))]
      ·rw [if_pos g11, if_neg g12, if_neg (fun h => h.elim g8 (fun h => h.elim g9 (fun h => h.elim g10 (fun h => g12 h.2))))]
     ·rw [if_neg g11, if_neg (fun h => h.elim g8 (fun h => h.elim g9 (fun h => h.elim g10 (fun h => g11 h.1))))]
    simp only [escV]
    rw [if_pos e]
    refine Ev.step h0 ?_
    cases hp : plainV (d.toNat : Int) with
    | some v => exact Ev.now _
    | none =>
     dsimp only
     by_cases e2 : (d.toNat : Int) = 120
     ·simp only [if_pos e2]
      exact hhex e2
     ·simp only [if_neg e2]
      refine ev_const fun k => ?_
      split <;> rfl
  ·rw [show ((c.toNat : Int) != 92) = true from bne_iff_ne.mpr e]
   cases t with
   | nil => simp only [escV]; rw [if_neg e]; exact Ev.step bad (Ev.now _)
   | cons d u => simp only [escV]; rw [if_neg e]; exact Ev.step bad (Ev.now _)
/-- What a letter stands for. -/
def letV (c : Int) : List S36 × Int := (class_Letter.f 90 c).getD ([], 70)
def letOk (c : Int) : Bool := match class_Letter.f 90 c with
 | none => false
 | some a => (decide (a.2 = 0) || (decide (a.2 = 70) && a.1.isEmpty)) && decide (a.1.length ≤ 700)
set_option maxRecDepth 100000 in
theorem lets_ok : (List.range 256).all (fun n => letOk (n : Int)) = true := by decide +kernel
theorem let_ev {c : Int} (h0 : 0 ≤ c) (h1 : c ≤ 255) : Ev (fun k => class_Letter.f k c) (letV c) ∧ ((letV c).2 = 0 ∨ letV c = ([], 70)) ∧ (letV c).1.length ≤ 700 := by
 have h := List.all_eq_true.1 lets_ok c.toNat (List.mem_range.2 (by omega))
 rw [show ((c.toNat : Nat) : Int) = c by omega] at h
 unfold letOk at h
 unfold letV
 cases hc : class_Letter.f 90 c with
 | none => rw [hc] at h; cases h
 | some a =>
  rw [hc] at h
  simp only [Bool.and_eq_true, Bool.or_eq_true, decide_eq_true_eq, List.isEmpty_iff] at h
  obtain ⟨a1, a2⟩ := a
  refine ⟨Ev.of (fun k => class_Letter.mono _ k) hc, ?_, h.2⟩
  rcases h.1 with h | h
  ·exact .inl h
  ·exact .inr (Prod.ext h.2 h.1)
/-- What a name stands for, the sign for what it lacks ahead or not. -/
def turnV (l : List S105) (s : List UInt8) : List (Int × Int) × Int := if s.head? = some 94 then lackV l ⟨⟨s.tail⟩⟩ else findV normL (l.map ofNm) ⟨⟨s⟩⟩
theorem find_small {l : List S105} (h : tabOk l = true) (s : ByteArray) : (findV normL (l.map ofNm) s).1.length ≤ 1000 := by
 obtain ⟨_, hg⟩ := good_nm (tab_good h).1
 unfold findV
 cases hf : (l.map ofNm).find? (isNm s) with
 | none => simp
 | some x =>
  have h1 := (hg x (List.mem_of_find?_eq_some hf)).2.1
  have h2 := normL_len (piecesV x.2)
  have h3 : (piecesV x.2).length = splitN x.2 := by unfold piecesV; rw [List.length_map, split_len]
  dsimp only
  omega
theorem turn_ev {l : List S105} (h : tabOk l = true) (s : List UInt8) : Ev (fun k => class_turned.f k l ⟨⟨s⟩⟩) ((turnV l s).1.map toRg, (turnV l s).2) := by
 unfold turnV
 by_cases e : s.head? = some 94
 ·rw [if_pos e]
  cases s with
  | nil => cases e
  | cons c t =>
   obtain rfl : c = 94 := by simpa using e
   have := turned_caret h ⟨⟨t⟩⟩
   rwa [caret_app] at this
 ·rw [if_neg e]
  exact turned_plain h (by unfold caret; exact beq_eq_false_iff_ne.mpr e)
theorem turn_fact {l : List S105} (h : tabOk l = true) (s : List UInt8) : Nrm (turnV l s).1 ∧ (turnV l s).1.length ≤ 1001 ∧ ((turnV l s).2 = 0 ∨ turnV l s = ([], 70)) := by
 unfold turnV
 split
 ·obtain ⟨h1, h2, h3⟩ := find_fact h ⟨⟨s.tail⟩⟩
  have h4 := find_small h ⟨⟨s.tail⟩⟩
  unfold lackV
  split
  ·exact ⟨notL_nrm _, by have := notL_len (findV normL (l.map ofNm) ⟨⟨s.tail⟩⟩).1; dsimp only; omega, .inl rfl⟩
  ·exact ⟨Nrm.nil, by simp, .inr rfl⟩
 ·obtain ⟨h1, h2, h3⟩ := find_fact h ⟨⟨s⟩⟩
  exact ⟨h1, by have := find_small h ⟨⟨s⟩⟩; omega, h3⟩
def colTab : List S105 := (class_colons.f).getD []
def proTab : List S105 := (class_properties.f).getD []
theorem col_tab : class_colons.f = some colTab ∧ tabOk colTab = true := ⟨rfl, by decide +kernel⟩
theorem pro_tab : class_properties.f = some proTab ∧ tabOk proTab = true := ⟨rfl, by decide +kernel⟩
theorem col_ev (s : List UInt8) : Ev (fun k => class_Colon.f k ⟨⟨s⟩⟩) ((turnV colTab s).1.map toRg, (turnV colTab s).2) := by
 obtain ⟨K, hK⟩ := turn_ev col_tab.2 s
 exact ⟨K, fun k hk => by
  show class_Colon.f k _ = _
  unfold class_Colon.f
  rw [col_tab.1, Option.bind_some, show class_turned.f k colTab _ = _ from hK k hk]
  rfl⟩
theorem pro_ev (s : List UInt8) : Ev (fun k => class_Property.f k ⟨⟨s⟩⟩) ((turnV proTab s).1.map toRg, (turnV proTab s).2) := by
 obtain ⟨K, hK⟩ := turn_ev pro_tab.2 s
 exact ⟨K, fun k hk => by
  show class_Property.f k _ = _
  unfold class_Property.f
  rw [pro_tab.1, Option.bind_some, show class_turned.f k proTab _ = _ from hK k hk]
  rfl⟩
/-- A property: whether turned round, its name, the bytes it takes. -/
def proV (neg : Bool) (nm : List UInt8) (n : Int) : List S36 × Int × Int :=
 if (turnV proTab nm).2 = 0 then ((if neg then notL (turnV proTab nm).1 else (turnV proTab nm).1).map toRg, n, 0) else ([], 0, 70)
def propV (neg : Bool) : List UInt8 → List S36 × Int × Int
 | [] => ([], 0, 82)
 | d :: v => if (d.toNat : Int) = 123 then (match (cutL 125 v).2 with
   | none => ([], 0, 82)
   | some _ => proV neg (cutL 125 v).1 (((cutL 125 v).1.length : Int) + 4))
  else if letB d.toNat = true then proV neg [d] 3 else ([], 0, 70)
def isLet (c : Int) : Bool := decide (c = 100 ∨ c = 115 ∨ c = 119 ∨ c = 68 ∨ c = 83 ∨ c = 87)
/-- An escape of a set. -/
def setV : List UInt8 → List S36 × Int × Int
 | [] => ([], 0, 3)
 | [c] => if (c.toNat : Int) = 92 then ([], 0, 5) else ([], 0, 3)
 | c :: d :: t => if (c.toNat : Int) = 92 then (if isLet d.toNat = true then ((letV d.toNat).1, 2, (letV d.toNat).2) else if (d.toNat : Int) = 112 ∨ (d.toNat : Int) = 80 then propV (decide ((d.toNat : Int) = 80)) t else ([], 0, 5)) else ([], 0, 3)
theorem proj_ev (s : List UInt8) (d : UInt8) (neg : Bool) (hb : bt ⟨⟨s⟩⟩ 1 = (d.toNat : Int)) (h1 : 1 < s.length) (hd : neg = decide ((d.toNat : Int) = 80)) (nm : List UInt8) (n : Int) : Ev (fun k => bracket_property.j0 k ⟨⟨s⟩⟩ n ⟨⟨nm⟩⟩) (proV neg nm n) := by
 obtain ⟨K, hK⟩ := pro_ev nm
 obtain ⟨f1, f2, f3⟩ := turn_fact pro_tab.2 nm
 obtain ⟨K2, hK2⟩ := not_ev ((turnV proTab nm).1.map toRg) (by rw [List.length_map]; omega)
 refine ⟨K + K2 + 1, fun k hk => ?_⟩
 obtain ⟨m, rfl⟩ : ∃ m, k = m + 1 := ⟨k - 1, by omega⟩
 have q1 : class_Property.f m _ = _ := hK m (by omega)
 have q2 : ranges_Not.f m _ = _ := hK2 m (by omega)
 rw [map_forth] at q2
 show bracket_property.j0 (m + 1) _ _ _ = _
 rw [bracket_property.j0, q1, Option.bind_some]
 unfold proV
 rcases f3 with f3 | f3
 ·rw [if_pos f3, if_pos f3, sz, if_pos (by omega), hb]
  by_cases e : (d.toNat : Int) = 80
  ·rw [if_pos e, q2, Option.bind_some, hd, decide_eq_true e, if_pos rfl]
  ·rw [if_neg e, hd, decide_eq_false e, if_neg (by decide)]
 ·rw [f3]
  rfl
theorem ex_list (l : List UInt8) (a b : Nat) : (ByteArray.mk ⟨l⟩).extract a b = ⟨⟨(l.drop a).take (b - a)⟩⟩ := by
 apply ByteArray.ext
 rw [ByteArray.data_extract]
 apply Array.ext'
 rw [Array.toList_extract, List.extract_eq_take_drop]
theorem idx_cons {b c : UInt8} {l : List UInt8} (h : b ≠ c) : Lib.indexByte (b :: l) c = if Lib.indexByte l c = -1 then -1 else Lib.indexByte l c + 1 := by
 rw [Lib.indexByte, if_neg (by simpa using h)]
 by_cases e : Lib.indexByte l c = -1
 ·rw [if_pos (by simpa using e), if_pos e]
 ·rw [if_neg (by simpa using e), if_neg e]
theorem prop_ev (c d : UInt8) (t : List UInt8) (neg : Bool) (hn : neg = decide ((d.toNat : Int) = 80)) (hs : (c :: d :: t).length ≤ 1000000) (hc : c ≠ 125) (hd : d ≠ 125) : Ev (fun k => bracket_property.f k ⟨⟨c :: d :: t⟩⟩) (propV neg t) := by
 have z := sz (c :: d :: t)
 have hb1 : bt ⟨⟨c :: d :: t⟩⟩ 1 = (d.toNat : Int) := (bt_drop (l := c :: d :: t) (i := 1) rfl).1
 have hj := proj_ev (c :: d :: t) d neg hb1 (by simp) hn
 cases t with
 | nil => exact ev_const fun k => by unfold bracket_property.f; rw [z, if_pos (by rfl)]; rfl
 | cons f v =>
  have hb2 : bt ⟨⟨c :: d :: f :: v⟩⟩ 2 = (f.toNat : Int) := (bt_drop (l := c :: d :: f :: v) (i := 2) rfl).1
  have hl : ((c :: d :: f :: v).length : Int) = v.length + 3 := by simp only [List.length_cons]; omega
  have h0 : ∀ k, bracket_property.f k ⟨⟨c :: d :: f :: v⟩⟩ = if (f.toNat : Int) = 123 then (if Lib.indexByte (c :: d :: f :: v) 125 < 0 then some ([], 0, 82) else if 3 ≤ Lib.indexByte (c :: d :: f :: v) 125 then (if Lib.indexByte (c :: d :: f :: v) 125 ≤ ((c :: d :: f :: v).length : Int) then bracket_property.j0 k ⟨⟨c :: d :: f :: v⟩⟩ (wrap64 (Lib.indexByte (c :: d :: f :: v) 125 + 1)) ((ByteArray.mk ⟨c :: d :: f :: v⟩).extract 3 (Lib.indexByte (c :: d :: f :: v) 125).toNat) else none) else none)
    else if letB f.toNat = true then bracket_property.j0 k ⟨⟨c :: d :: f :: v⟩⟩ 3 ((ByteArray.mk ⟨c :: d :: f :: v⟩).extract 2 3) else some ([], 0, 70) := fun k => by
   unfold bracket_property.f
   rw [z, if_neg (by omega), if_pos (by omega), if_pos (by omega), if_pos (by omega), hb2, letter_f]
   rfl
  simp only [propV]
  by_cases e : (f.toNat : Int) = 123
  ·rw [if_pos e]
   have hf : f = 123 := u8_eq (n := 123) e (by omega)
   have hix : Lib.indexByte (c :: d :: f :: v) 125 = if Lib.indexByte v 125 = -1 then -1 else Lib.indexByte v 125 + 3 := by
    subst hf
    rw [idx_cons hc, idx_cons hd, idx_cons (show (123 : UInt8) ≠ 125 by decide)]
    rcases cutL_spec 125 v with ⟨h1, _⟩ | ⟨i, h1, _⟩
    ·rw [h1]; decide
    ·rw [h1]
     repeat' split
     all_goals omega
   rcases cutL_spec 125 v with ⟨h1, h2⟩ | ⟨i, h1, h2⟩
   ·rw [h2]
    rw [h1, if_pos rfl] at hix
    exact ev_const fun k => by rw [h0, if_pos e, hix, if_pos (by omega)]
   ·rw [h2]
    rw [h1, if_neg (by omega)] at hix
    have hlt := index_lt v 125
    rw [h1] at hlt
    have hn := hj (v.take i) ((i : Int) + 4)
    dsimp only
    rw [show ((v.take i).length : Int) = i by rw [List.length_take]; omega]
    refine Ev.congr (fun k => ?_) hn
    rw [h0, if_pos e, hix, if_neg (by omega), if_pos (by omega), if_pos (by omega), wr (x := (i : Int) + 3 + 1) (y := (i : Int) + 4) (by omega) (by omega) (by omega), show ((i : Int) + 3).toNat = i + 3 by omega, ex_list]
    rw [show i + 3 - 3 = i by omega]
    rfl
  ·rw [if_neg e]
   by_cases e2 : letB f.toNat = true
   ·rw [if_pos e2]
    exact Ev.congr (fun k => by rw [h0, if_neg e, if_pos e2, ex_list]; rfl) (hj [f] 3)
   ·rw [if_neg e2]
    exact ev_const fun k => by rw [h0, if_neg e, if_neg e2]
/-- The program's answer for an escape of a set. -/
theorem set_ev (s : List UInt8) (hs : s.length ≤ 1000000) : Ev (fun k => bracket_Set.f k ⟨⟨s⟩⟩) (setV s) := by
 have z := sz s
 have bad : ∀ k, bracket_Set.j0 (k + 1) ⟨⟨s⟩⟩ true = some ([], 0, 3) := fun k => by rw [bracket_Set.j0, if_pos rfl]
 match s, z, hs, bad with
 | [], z, _, bad => exact Ev.congr (f := fun k => bracket_Set.j0 k ⟨⟨[]⟩⟩ true) (fun k => by unfold bracket_Set.f; rw [tl]; rfl) (Ev.step bad (Ev.now _))
 | c :: t, z, hs, bad =>
  have hb : bt ⟨⟨c :: t⟩⟩ 0 = (c.toNat : Int) := (bt_drop (l := c :: t) (i := 0) rfl).1
  have h00 : ∀ k, bracket_Set.f k ⟨⟨c :: t⟩⟩ = bracket_Set.j0 k ⟨⟨c :: t⟩⟩ ((c.toNat : Int) != 92) := fun k => by
   unfold bracket_Set.f
   rw [tl, if_neg (by simp), z, if_pos (by simp only [List.length_cons]; omega), hb]
  refine Ev.congr h00 ?_
  by_cases e : (c.toNat : Int) = 92
  ·rw [show ((c.toNat : Int) != 92) = false by rw [e]; rfl]
   cases t with
   | nil => exact Ev.step (f := fun _ => some ([], 0, 5)) (fun k => by rw [bracket_Set.j0, if_neg (by decide), z, if_pos (by simp)]) (by simp only [setV]; rw [if_pos e]; exact Ev.now _)
   | cons d u =>
    have hd := u8_in d
    have hb1 : bt ⟨⟨c :: d :: u⟩⟩ 1 = (d.toNat : Int) := (bt_drop (l := c :: d :: u) (i := 1) rfl).1
    have hl : 1 < ((c :: d :: u).length : Int) := by simp only [List.length_cons]; omega
    obtain ⟨hlet, _, _⟩ := let_ev hd.1 hd.2
    have hle : Ev (fun k => (class_Letter.f k (d.toNat : Int)).bind fun bt => some (bt.1, (2 : Int), bt.2)) ((letV d.toNat).1, 2, (letV d.toNat).2) := Ev.bind hlet (Ev.now _)
    have j1t : Ev (fun k => bracket_Set.j1 k ⟨⟨c :: d :: u⟩⟩ d.toNat true) ((letV d.toNat).1, 2, (letV d.toNat).2) := Ev.step (fun k => by rw [bracket_Set.j1, if_pos rfl, z, if_pos hl, hb1]) hle
    have j2t : Ev (fun k => bracket_Set.j2 k ⟨⟨c :: d :: u⟩⟩ d.toNat true) ((letV d.toNat).1, 2, (letV d.toNat).2) := Ev.step (fun k => by rw [bracket_Set.j2, if_pos rfl, z, if_pos hl, hb1]) hle
    have h1 : ∀ k, bracket_Set.j0 (k + 1) ⟨⟨c :: d :: u⟩⟩ false = bracket_Set.j1 k ⟨⟨c :: d :: u⟩⟩ d.toNat (decide ((d.toNat : Int) = 100 ∨ (d.toNat : Int) = 115 ∨ (d.toNat : Int) = 119)) := fun k => by
     rw [bracket_Set.j0, if_neg (by decide), z, if_neg (by omega), if_pos hl, hb1]
     by_cases g1 : (d.toNat : Int) = 100
     ·rw [if_pos g1, g1]; rfl
     by_cases g2 : (d.toNat : Int) = 115
     ·rw [if_neg g1, if_pos g2, g2]; rfl
     rw [if_neg g1, if_neg g2]
     congr 1
     rw [Bool.eq_iff_iff]
     simp only [beq_iff_eq, decide_eq_true_eq]
     omega
    have h2 : ∀ k, bracket_Set.j1 (k + 1) ⟨⟨c :: d :: u⟩⟩ d.toNat false = bracket_Set.j2 k ⟨⟨c :: d :: u⟩⟩ d.toNat (decide ((d.toNat : Int) = 68 ∨ (d.toNat : Int) = 83 ∨ (d.toNat : Int) = 87)) := fun k => by
     rw [bracket_Set.j1, if_neg (by decide)]
     by_cases g1 : (d.toNat : Int) = 68
     ·rw [if_pos g1, g1]; rfl
     by_cases g2 : (d.toNat : Int) = 83
     ·rw [if_neg g1, if_pos g2, g2]; rfl
     rw [if_neg g1, if_neg g2]
     congr 1
     rw [Bool.eq_iff_iff]
     simp only [beq_iff_eq, decide_eq_true_eq]
     omega
    have h3 : ∀ k, bracket_Set.j2 (k + 1) ⟨⟨c :: d :: u⟩⟩ d.toNat false = bracket_Set.j3 k ⟨⟨c :: d :: u⟩⟩ (decide ((d.toNat : Int) = 112 ∨ (d.toNat : Int) = 80)) := fun k => by
     rw [bracket_Set.j2, if_neg (by decide)]
     by_cases g1 : (d.toNat : Int) = 112
     ·rw [if_pos g1, g1]; rfl
     rw [if_neg g1]
     congr 1
     rw [Bool.eq_iff_iff]
     simp only [beq_iff_eq, decide_eq_true_eq]
     omega
    simp only [setV]
    rw [if_pos e]
    refine Ev.step h1 ?_
    by_cases a1 : (d.toNat : Int) = 100 ∨ (d.toNat : Int) = 115 ∨ (d.toNat : Int) = 119
    ·rw [decide_eq_true a1, if_pos (show isLet d.toNat = true from decide_eq_true (by omega))]
     exact j1t
    rw [decide_eq_false a1]
    refine Ev.step h2 ?_
    by_cases a2 : (d.toNat : Int) = 68 ∨ (d.toNat : Int) = 83 ∨ (d.toNat : Int) = 87
    ·rw [decide_eq_true a2, if_pos (show isLet d.toNat = true from decide_eq_true (by omega))]
     exact j2t
    rw [decide_eq_false a2, if_neg (show ¬ isLet d.toNat = true from by unfold isLet; rw [decide_eq_true_eq]; omega)]
    refine Ev.step h3 ?_
    by_cases a3 : (d.toNat : Int) = 112 ∨ (d.toNat : Int) = 80
    ·rw [decide_eq_true a3, if_pos a3]
     have hne : ∀ x : UInt8, (x.toNat : Int) ≠ 125 → x ≠ 125 := fun x hx h => hx (by rw [h]; rfl)
     refine Ev.step (f := fun k => (bracket_property.f k ⟨⟨c :: d :: u⟩⟩).bind fun bt => some (bt.1, bt.2.1, bt.2.2)) (fun k => by rw [bracket_Set.j3, if_pos rfl]) (Ev.bind (prop_ev c d u _ rfl hs (hne c (by omega)) (hne d (by omega))) (Ev.now _))
    ·rw [decide_eq_false a3, if_neg a3]
     exact Ev.step (fun k => by rw [bracket_Set.j3, if_neg (by decide)]) (Ev.now _)
  ·rw [show ((c.toNat : Int) != 92) = true from bne_iff_ne.mpr e]
   cases t with
   | nil => simp only [setV]; rw [if_neg e]; exact Ev.step bad (Ev.now _)
   | cons d u => simp only [setV]; rw [if_neg e]; exact Ev.step bad (Ev.now _)
theorem pro_small (neg : Bool) (nm : List UInt8) (n : Int) : (proV neg nm n).1.length ≤ 1002 := by
 obtain ⟨_, h, _⟩ := turn_fact pro_tab.2 nm
 have h2 := notL_len (turnV proTab nm).1
 unfold proV
 split
 ·rw [List.length_map]
  split <;> omega
 ·simp
theorem prop_small (neg : Bool) (t : List UInt8) : (propV neg t).1.length ≤ 1002 := by
 cases t with
 | nil => simp [propV]
 | cons d v =>
  simp only [propV]
  split
  ·split
   ·simp
   ·exact pro_small _ _ _
  ·split
   ·exact pro_small _ _ _
   ·simp
theorem set_small (s : List UInt8) : (setV s).1.length ≤ 1002 := by
 match s with
 | [] => simp [setV]
 | [c] => simp only [setV]; split <;> simp
 | c :: d :: t =>
  have hd := u8_in d
  obtain ⟨_, _, h⟩ := let_ev hd.1 hd.2
  simp only [setV]
  split
  ·split
   ·dsimp only; omega
   ·split
    ·exact prop_small _ _
    ·simp
  ·simp
theorem ev_uniq {α : Type} {g : Nat → Option α} {a b : α} (h : Ev g a) (k : Ev g b) : a = b := by
 obtain ⟨K, hK⟩ := h
 obtain ⟨M, hM⟩ := k
 have h1 := hK (K + M) (by omega)
 rw [hM (K + M) (by omega)] at h1
 exact (Option.some.inj h1).symm
theorem rpro_ev (s : List UInt8) : Ev (fun k => burinref04_Property.f k ⟨⟨s⟩⟩) ((turnV proTab s).1.map toRg, (turnV proTab s).2) := by
 obtain ⟨l, hl, tl, vl⟩ := properties_at
 have hp : l = proTab := Option.some.inj (hl.symm.trans pro_tab.1)
 subst hp
 obtain ⟨L, e, bL, h1, h2⟩ := both_ev tl vl (by decide) ⟨⟨s⟩⟩
 have he := ev_uniq h1 (turn_ev tl s)
 rw [he] at h2
 refine Ev.congr (fun k => ?_) h2
 unfold burinref04_Property.f refC
 simp only [property_tab]
def rletOk (c : Int) : Bool := match class_Letter.f 90 c, burinref04_Letter.f 90 c with
 | some a, some b => decide (a.1.map ofRg = b.1.map ofRg) && decide (a.2 = b.2) && decide (a.2 = 0 ↔ isLet c = true)
 | _, _ => false
set_option maxRecDepth 100000 in
theorem rlets_ok : (List.range 256).all (fun n => rletOk (n : Int)) = true := by decide +kernel
theorem rlet_ev {c : Int} (h0 : 0 ≤ c) (h1 : c ≤ 255) : Ev (fun k => burinref04_Letter.f k c) (letV c) ∧ ((letV c).2 = 0 ↔ isLet c = true) := by
 have h := List.all_eq_true.1 rlets_ok c.toNat (List.mem_range.2 (by omega))
 rw [show ((c.toNat : Nat) : Int) = c by omega] at h
 unfold rletOk at h
 unfold letV
 cases hc : class_Letter.f 90 c with
 | none => rw [hc] at h; cases h
 | some a =>
  cases hr : burinref04_Letter.f 90 c with
  | none => rw [hc, hr] at h; cases h
  | some b =>
   rw [hc, hr] at h
   simp only [Bool.and_eq_true, decide_eq_true_eq] at h
   obtain ⟨a1, a2⟩ := a
   obtain ⟨b1, b2⟩ := b
   have e1 : a1 = b1 := by have := congrArg (List.map toRg) h.1.1; rwa [map_back, map_back] at this
   have e2 : a2 = b2 := h.1.2
   subst e1 e2
   exact ⟨Ev.of (fun k => burinref04_Letter.mono _ k) hr, h.2⟩
theorem rsetj_ev (s : List UInt8) (d : UInt8) (neg : Bool) (hb : bt ⟨⟨s⟩⟩ 1 = (d.toNat : Int)) (h1 : 1 < s.length) (hd : neg = decide ((d.toNat : Int) = 80)) (nm : List UInt8) (n : Int) : Ev (fun k => burinref07_Set.j3 k ⟨⟨s⟩⟩ ⟨⟨nm⟩⟩ n) (proV neg nm n) := by
 obtain ⟨K, hK⟩ := rpro_ev nm
 obtain ⟨f1, f2, f3⟩ := turn_fact pro_tab.2 nm
 obtain ⟨K2, hK2⟩ := rnot_ev (turnV proTab nm).1 (by omega)
 refine ⟨K + K2 + 1, fun k hk => ?_⟩
 obtain ⟨m, rfl⟩ : ∃ m, k = m + 1 := ⟨k - 1, by omega⟩
 have q1 : burinref04_Property.f m _ = _ := hK m (by omega)
 have q2 : burinref02_Not.f m _ = _ := hK2 m (by omega)
 show burinref07_Set.j3 (m + 1) _ _ _ = _
 rw [burinref07_Set.j3, q1, Option.bind_some]
 unfold proV
 rcases f3 with f3 | f3
 ·rw [if_pos f3, if_pos f3, sz, if_pos (by omega), hb]
  by_cases e : (d.toNat : Int) = 80
  ·rw [if_pos e, q2, Option.bind_some, hd, decide_eq_true e, if_pos rfl]
  ·rw [if_neg e, hd, decide_eq_false e, if_neg (by decide)]
 ·rw [f3]
  rfl
/-- The document's search for the closing brace. -/
theorem rset_l0 (s : List UInt8) (d : UInt8) (neg : Bool) (hb : bt ⟨⟨s⟩⟩ 1 = (d.toNat : Int)) (h1 : 3 ≤ s.length) (hs : s.length ≤ 1000000) (hd : neg = decide ((d.toNat : Int) = 80)) : ∀ (v : List UInt8) (i : Nat), s.drop i = v → 3 ≤ i → i ≤ s.length → Ev (fun k => burinref07_Set.l0 k ⟨⟨s⟩⟩ i) (match (cutL 125 v).2 with
   | none => (([] : List S36), 0, 82)
   | some _ => proV neg ((s.drop 3).take (i - 3) ++ (cutL 125 v).1) (((i - 3 + (cutL 125 v).1.length : Nat) : Int) + 4))
 | [], i, h, h3, hi => by
  have : s.length ≤ i := List.drop_eq_nil_iff.1 h
  refine Ev.step (fun k => ?_) (Ev.now _)
  rw [burinref07_Set.l0, sz, if_neg (by omega), if_pos (by omega)]
  rfl
 | c :: t, i, h, h3, hi => by
  obtain ⟨hbt, hlt, ht⟩ := bt_drop h
  unfold cutL
  by_cases e : c = 125
  ·subst e
   simp only [if_true, List.append_nil, List.length_nil, Nat.add_zero]
   refine Ev.step (fun k => ?_) (rsetj_ev s d neg hb (by omega) hd ((s.drop 3).take (i - 3)) (((i - 3 : Nat) : Int) + 4))
   rw [burinref07_Set.l0, sz, if_pos (by omega), if_pos (by omega), hbt, if_pos (by rfl), if_neg (by omega), if_pos (by omega), if_pos (by omega), Int.toNat_natCast, ex_list, wr (x := (i : Int) + 1) (y := ((i - 3 : Nat) : Int) + 4) (by omega) (by omega) (by omega)]
  ·simp only [if_neg e]
   have ih := rset_l0 s d neg hb h1 hs hd t (i + 1) ht (by omega) (by omega)
   have hidx : (s.drop 3).take (i + 1 - 3) = (s.drop 3).take (i - 3) ++ [c] := by
    rw [show i + 1 - 3 = (i - 3) + 1 by omega, List.take_succ_eq_append_getElem (by rw [List.length_drop]; omega)]
    congr 2
    rw [List.getElem_drop]
    have : s.drop i = s[i] :: s.drop (i + 1) := List.drop_eq_getElem_cons hlt
    rw [h] at this
    have h2 := (List.cons.inj this).1
    simp only [show 3 + (i - 3) = i by omega]
    exact h2.symm
   rw [hidx] at ih
   have hne : ¬ (c.toNat : Int) = 125 := fun hh => e (u8_eq (n := 125) hh (by omega))
   refine Ev.step (f := fun k => burinref07_Set.l0 k ⟨⟨s⟩⟩ ((i + 1 : Nat) : Int)) (fun k => ?_) ?_
   ·rw [burinref07_Set.l0, sz, if_pos (by omega), if_pos (by omega), hbt, if_neg hne, wr (x := (i : Int) + 1) (y := ((i + 1 : Nat) : Int)) (by omega) (by omega) (by omega)]
   ·cases hq : (cutL 125 t).2 with
    | none => rw [hq] at ih; exact ih
    | some x =>
     rw [hq] at ih
     dsimp only at ih ⊢
     rw [List.append_assoc, List.singleton_append] at ih
     rw [show ((i + 1 - 3 + (cutL 125 t).1.length : Nat) : Int) + 4 = ((i - 3 + (c :: (cutL 125 t).1).length : Nat) : Int) + 4 by rw [List.length_cons]; omega] at ih
     exact ih
/-- The document's answer for an escape of a set. -/
theorem rset_ev (s : List UInt8) (hs : s.length ≤ 1000000) : Ev (fun k => burinref07_Set.f k ⟨⟨s⟩⟩) (setV s) := by
 have z := sz s
 have bad : ∀ k, burinref07_Set.j0 (k + 1) ⟨⟨s⟩⟩ true = some ([], 0, 3) := fun k => by rw [burinref07_Set.j0, if_pos rfl]
 match s, z, hs, bad with
 | [], z, _, bad => exact Ev.congr (f := fun k => burinref07_Set.j0 k ⟨⟨[]⟩⟩ true) (fun k => by unfold burinref07_Set.f; rw [z]; rfl) (Ev.step bad (Ev.now _))
 | c :: t, z, hs, bad =>
  have hb : bt ⟨⟨c :: t⟩⟩ 0 = (c.toNat : Int) := (bt_drop (l := c :: t) (i := 0) rfl).1
  have h00 : ∀ k, burinref07_Set.f k ⟨⟨c :: t⟩⟩ = burinref07_Set.j0 k ⟨⟨c :: t⟩⟩ ((c.toNat : Int) != 92) := fun k => by
   unfold burinref07_Set.f
   rw [z, if_neg (by simp only [List.length_cons]; omega), if_pos (by simp only [List.length_cons]; omega), hb]
  refine Ev.congr h00 ?_
  by_cases e : (c.toNat : Int) = 92
  ·rw [show ((c.toNat : Int) != 92) = false by rw [e]; rfl]
   cases t with
   | nil => exact Ev.step (f := fun _ => some ([], 0, 5)) (fun k => by rw [burinref07_Set.j0, if_neg (by decide), z, if_pos (by simp)]) (by simp only [setV]; rw [if_pos e]; exact Ev.now _)
   | cons d u =>
    have hd := u8_in d
    have hb1 : bt ⟨⟨c :: d :: u⟩⟩ 1 = (d.toNat : Int) := (bt_drop (l := c :: d :: u) (i := 1) rfl).1
    have hl : 1 < ((c :: d :: u).length : Int) := by simp only [List.length_cons]; omega
    obtain ⟨hlet, hiff⟩ := rlet_ev hd.1 hd.2
    have h1 : ∀ k, burinref07_Set.j0 (k + 1) ⟨⟨c :: d :: u⟩⟩ false = burinref07_Set.j1 k ⟨⟨c :: d :: u⟩⟩ (decide ((d.toNat : Int) ≠ 112 ∧ (d.toNat : Int) ≠ 80)) := fun k => by
     rw [burinref07_Set.j0, if_neg (by decide), z, if_neg (by omega), if_pos hl, hb1]
     by_cases g1 : (d.toNat : Int) = 112
     ·rw [if_pos g1, g1]; rfl
     rw [if_neg g1]
     congr 1
     rw [Bool.eq_iff_iff]
     simp only [bne_iff_ne, decide_eq_true_eq]
     omega
    simp only [setV]
    rw [if_pos e]
    refine Ev.step h1 ?_
    by_cases a1 : (d.toNat : Int) ≠ 112 ∧ (d.toNat : Int) ≠ 80
    ·rw [decide_eq_true a1]
     refine Ev.step (f := fun k => (burinref04_Letter.f k (d.toNat : Int)).bind fun bt => if bt.2 = 0 then some (bt.1, 2, 0) else some ([], 0, 5)) (fun k => by rw [burinref07_Set.j1, if_pos rfl, z, if_pos hl, hb1]) (Ev.bind hlet ?_)
     by_cases g : isLet d.toNat = true
     ·rw [if_pos g, hiff.2 g]
      exact ev_const fun k => by rw [if_pos rfl]
     ·rw [if_neg g, if_neg (show ¬ ((d.toNat : Int) = 112 ∨ (d.toNat : Int) = 80) by omega)]
      exact ev_const fun k => by rw [if_neg (fun h => g (hiff.1 h))]
    ·have a2 : (d.toNat : Int) = 112 ∨ (d.toNat : Int) = 80 := by omega
     rw [decide_eq_false a1, if_neg (show ¬ isLet d.toNat = true from by unfold isLet; rw [decide_eq_true_eq]; omega), if_pos a2]
     have hj := rsetj_ev (c :: d :: u) d _ hb1 (by simp) rfl
     cases u with
     | nil => exact Ev.step (f := fun _ => some ([], 0, 82)) (fun k => by rw [burinref07_Set.j1, if_neg (by decide), z, if_pos (by rfl)]) (Ev.now _)
     | cons f v =>
      have hb2 : bt ⟨⟨c :: d :: f :: v⟩⟩ 2 = (f.toNat : Int) := (bt_drop (l := c :: d :: f :: v) (i := 2) rfl).1
      have hl3 : ((c :: d :: f :: v).length : Int) = v.length + 3 := by simp only [List.length_cons]; omega
      have h0 : ∀ k, burinref07_Set.j1 (k + 1) ⟨⟨c :: d :: f :: v⟩⟩ false = if (f.toNat : Int) = 123 then burinref07_Set.l0 k ⟨⟨c :: d :: f :: v⟩⟩ 3 else if letB f.toNat = true then burinref07_Set.j3 k ⟨⟨c :: d :: f :: v⟩⟩ ((ByteArray.mk ⟨c :: d :: f :: v⟩).extract 2 3) 3 else some ([], 0, 70) := fun k => by
       rw [burinref07_Set.j1, if_neg (by decide), z, if_neg (by omega), if_pos (by omega), if_pos (by omega), if_pos (by omega), hb2, rletter_f]
       rfl
      refine Ev.step h0 ?_
      simp only [propV]
      by_cases g1 : (f.toNat : Int) = 123
      ·simp only [if_pos g1]
       have hl0 := rset_l0 (c :: d :: f :: v) d _ hb1 (by simp) hs rfl v 3 rfl (by omega) (by simp)
       simp only [Nat.sub_self, List.take_zero, List.nil_append, Nat.zero_add] at hl0
       exact hl0
      ·simp only [if_neg g1]
       by_cases g2 : letB f.toNat = true
       ·simp only [if_pos g2]
        rw [ex_list]
        exact hj [f] 3
       ·simp only [if_neg g2]
        exact ev_const fun _ => rfl
  ·rw [show ((c.toNat : Int) != 92) = true from bne_iff_ne.mpr e]
   cases t with
   | nil => simp only [setV]; rw [if_neg e]; exact Ev.step bad (Ev.now _)
   | cons d u => simp only [setV]; rw [if_neg e]; exact Ev.step bad (Ev.now _)
theorem wrap_to {x y : Int} (e : x = y) (h0 : -9223372036854775808 ≤ y) (h1 : y ≤ 9223372036854775807) : wrap64 x = y := by
 subst e
 exact wrap_in h0 h1
theorem width_f (k : Nat) (r : Int) : utf_Width.f (k + 1) r = some (widthF r : Int) := by
 simp only [utf_Width.f, utf_Width.j0, widthF]
 by_cases h1 : r < 0
 ·simp [h1]
 ·by_cases h2 : r > 1114111
  ·simp [h1, h2]
  ·by_cases h3 : r ≥ 55296
   ·by_cases h4 : r ≤ 57343
    ·simp [h1, h2, h3, h4]
    ·have h5 : ¬ r ≤ 127 := by omega
     have h6 : ¬ r ≤ 2047 := by omega
     by_cases h7 : r ≤ 65535 <;> simp [h1, h2, h3, h4, h5, h6, h7]
   ·have h4 : ¬ (r < 0 ∨ r > 1114111 ∨ (55296 ≤ r ∧ r ≤ 57343)) := by omega
    rw [if_neg h1, if_neg h2, if_neg h3, if_neg h4, if_neg (by decide)]
    by_cases h5 : r ≤ 127
    ·simp [h5]
    ·by_cases h6 : r ≤ 2047
     ·simp [h5, h6]
     ·by_cases h7 : r ≤ 65535 <;> simp [h5, h6, h7]
theorem long_fv (k : Nat) (b : Int) : utf_long.f (k + 2) b = some (longV b : Int) := by
 simp only [utf_long.f, utf_long.j0, utf_long.j1, longV]
 by_cases h1 : b ≤ 127
 ·simp [h1]
 ·by_cases h2 : b ≥ 194
  ·by_cases h3 : b < 224
   ·simp [h1, h2, h3]
   ·have g : ¬ (194 ≤ b ∧ b < 224) := by omega
    have h4 : b ≥ 224 := by omega
    rw [if_neg h1, if_pos h2, if_neg h1, if_neg g, if_neg (by simpa using h3), if_pos h4]
    by_cases h5 : b < 240
    ·simp [h4, h5]
    ·have g2 : ¬ (224 ≤ b ∧ b < 240) := by omega
     have h6 : b ≥ 240 := by omega
     rw [if_neg (by simpa using h5), if_pos h6, if_neg g2]
     by_cases h7 : b < 245
     ·simp [h6, h7]
     ·simp [h7]
  ·have g1 : ¬ (194 ≤ b ∧ b < 224) := by omega
   have g2 : ¬ (224 ≤ b ∧ b < 240) := by omega
   have g3 : ¬ (240 ≤ b ∧ b < 245) := by omega
   rw [if_neg h1, if_neg h2, if_neg h1, if_neg g1, if_neg g2, if_neg g3, if_neg (by decide), if_neg (by omega), if_neg (by decide), if_neg (by omega)]
   rfl
theorem dec_l0 (s : ByteArray) (n : Nat) (hs : n ≤ s.size) (hn : n ≤ 4) : ∀ (d : Nat) (x : Int) (i m : Nat), i + d = n → 1 ≤ i → m + d ≤ 3 → 0 ≤ x → x < 128 * 64 ^ m → Ev (fun k => utf_Decode.l0 k s x n i) (decL s n d x i)
 | 0, x, i, m, hi, h1, hm, h0, hx => by
  refine ⟨2, fun k hk => ?_⟩
  obtain ⟨k, rfl⟩ : ∃ j, k = j + 2 := ⟨k - 2, by omega⟩
  simp only [utf_Decode.l0, decL]
  rw [if_neg (by omega), width_f]
  simp only [Option.bind_some]
  by_cases h : widthF x = n
  ·rw [if_pos (by omega), if_pos h]
  ·rw [if_neg (by omega), if_neg h]
 | d + 1, x, i, m, hi, h1, hm, h0, hx => by
  have hb := byteI_in s i
  have hx9 : x ≤ 1000000000 := by
   have : m = 0 ∨ m = 1 ∨ m = 2 := by omega
   rcases this with rfl | rfl | rfl <;> omega
  have hstep : ∀ k, utf_Decode.l0 (k + 1) s x n i = if 128 ≤ byteI s i ∧ byteI s i ≤ 191 then utf_Decode.l0 k s (x * 64 + byteI s i % 64) n ((i + 1 : Nat) : Int) else some (-1, 1) := by
   intro k
   simp only [utf_Decode.l0]
   rw [if_pos (by omega), if_pos (by omega), if_pos (by omega), bt_byteI]
   by_cases h : 128 ≤ byteI s i ∧ byteI s i ≤ 191
   ·rw [if_pos ((and192_iff hb).2 h), if_pos h, and63_eq hb, wrap_in (x := x * 64) (by omega) (by omega), wrap_in (x := byteI s i % 64) (by omega) (by omega), or_six h0 hx9 (by omega) (by omega), wrap_to (x := (i : Int) + 1) (y := ((i + 1 : Nat) : Int)) (by omega) (by omega) (by omega)]
   ·rw [if_neg (fun g => h ((and192_iff hb).1 g)), if_neg h]
  unfold decL
  by_cases h : 128 ≤ byteI s i ∧ byteI s i ≤ 191
  ·rw [if_pos h]
   refine Ev.step (fun k => by rw [hstep k, if_pos h]) (dec_l0 s n hs hn d _ (i + 1) (m + 1) (by omega) (by omega) (by omega) (by omega) ?_)
   have : m = 0 ∨ m = 1 ∨ m = 2 := by omega
   rcases this with rfl | rfl | rfl <;> omega
  ·rw [if_neg h]
   exact Ev.step (fun k => by rw [hstep k, if_neg h]) (Ev.now _)
theorem dec_ev (s : ByteArray) : Ev (fun k => utf_Decode.f k s) (decV s) := by
 unfold decV utf_Decode.f
 by_cases h0 : s.size = 0
 ·have e : s.toList = ([] : List UInt8) := by
   rw [ByteArray.toList_eq]
   exact List.length_eq_zero_iff.1 (by simpa using h0)
  rw [if_pos h0]
  simp only [if_pos e]
  exact Ev.now _
 ·rw [if_neg h0]
  have e : ¬ s.toList = ([] : List UInt8) := by
   intro e
   rw [ByteArray.toList_eq] at e
   have := congrArg List.length e
   rw [Array.length_toList] at this
   exact h0 this
  simp only [if_neg e, if_pos (show 0 < (s.size : Int) by omega)]
  have hb := byteI_in s 0
  have hbt : bt s 0 = byteI s 0 := bt_byteI s 0
  rw [hbt]
  refine Ev.bind (a := (longV (byteI s 0) : Int)) ⟨2, fun k hk => by obtain ⟨k, rfl⟩ : ∃ j, k = j + 2 := ⟨k - 2, by omega⟩; exact long_fv k _⟩ ?_
  by_cases h1 : longV (byteI s 0) = 0
  ·rw [if_pos (.inl h1)]
   simp only [if_pos (show ((longV (byteI s 0) : Nat) : Int) = 0 by omega)]
   exact Ev.step (fun k => by simp only [utf_Decode.j0]; rfl) (Ev.now _)
  ·simp only [if_neg (show ¬ ((longV (byteI s 0) : Nat) : Int) = 0 by omega)]
   by_cases h2 : s.size < longV (byteI s 0)
   ·rw [if_pos (.inr h2)]
    refine Ev.step (fun k => by simp only [utf_Decode.j0]; rw [if_pos (by simp; omega)]) (Ev.now _)
   ·rw [if_neg (by omega)]
    have hx := xor_lead hb h1
    have hl4 := longV_le (byteI s 0)
    refine Ev.step (f := fun k => utf_Decode.l0 k s (byteI s 0 - leadV (longV (byteI s 0))) (longV (byteI s 0)) 1) (fun k => ?_) (dec_l0 s _ (by omega) hl4 _ _ 1 0 (by omega) (by omega) (by omega) hx.2.1 (by omega))
    simp only [utf_Decode.j0]
    rw [if_neg (by simp; omega), if_pos (by omega)]
    rw [show utf_lead.f ((longV (byteI s 0) : Nat) : Int) = some (leadV (longV (byteI s 0))) by unfold utf_lead.f; rw [if_pos (by omega), Int.toNat_natCast]]
    simp only [Option.bind_some]
    rw [hbt, hx.1, wrap_in (x := byteI s 0 - leadV (longV (byteI s 0))) (by omega) (by omega)]
theorem rwidth_f (k : Nat) (r : Int) : burinref01_Width.f (k + 1) r = some (widthF r : Int) := by
 simp only [burinref01_Width.f, burinref01_Width.j0, widthF]
 by_cases h1 : r < 0
 ·simp [h1]
 ·by_cases h2 : r > 1114111
  ·simp [h1, h2]
  ·by_cases h3 : r ≥ 55296
   ·by_cases h4 : r ≤ 57343
    ·simp [h1, h2, h3, h4]
    ·have h5 : ¬ r ≤ 127 := by omega
     have h6 : ¬ r ≤ 2047 := by omega
     have h5' : ¬ r < 128 := by omega
     have h6' : ¬ r < 2048 := by omega
     by_cases h7 : r ≤ 65535
     ·have h7' : r < 65536 := by omega
      simp [h1, h2, h3, h4, h5, h6, h7, h5', h6', h7']
     ·have h7' : ¬ r < 65536 := by omega
      simp [h1, h2, h3, h4, h5, h6, h7, h5', h6', h7']
   ·have h4 : ¬ (r < 0 ∨ r > 1114111 ∨ (55296 ≤ r ∧ r ≤ 57343)) := by omega
    rw [if_neg h1, if_neg h2, if_neg h3, if_neg h4, if_neg (by decide)]
    by_cases h5 : r ≤ 127
    ·rw [if_pos (show r < 128 by omega), if_pos h5]; rfl
    ·rw [if_neg (show ¬ r < 128 by omega), if_neg h5]
     by_cases h6 : r ≤ 2047
     ·rw [if_pos (show r < 2048 by omega), if_pos h6]; rfl
     ·rw [if_neg (show ¬ r < 2048 by omega), if_neg h6]
      by_cases h7 : r ≤ 65535
      ·rw [if_pos (show r < 65536 by omega), if_pos h7]; rfl
      ·rw [if_neg (show ¬ r < 65536 by omega), if_neg h7]; rfl
theorem tdiv_pos (a b : Int) (h : 0 ≤ a) : Int.tdiv a b = a / b := Int.tdiv_eq_ediv_of_nonneg h
theorem tmod_pos (a b : Int) (h : 0 ≤ a) : Int.tmod a b = a % b := Int.tmod_eq_emod_of_nonneg h
theorem renc_f (k : Nat) (r : Int) : burinref01_Encode.f (k + 1) r = some (if widthF r = 0 then ((⟨#[]⟩ : ByteArray), 1) else (strOfNums (encN (widthF r) r), 0)) := by
 simp only [burinref01_Encode.f, rwidth_f, Option.bind_some]
 by_cases h0 : widthF r = 0
 ·rw [h0]; rfl
 ·rw [if_neg h0, if_neg (show ¬ (widthF r : Int) = 0 by omega)]
  rcases widthF_eq rfl (show 1 ≤ widthF r by omega) with ⟨e, h⟩ | ⟨e, h⟩ | ⟨e, h⟩ | ⟨e, h⟩ <;> rw [e]
  ·rw [if_pos (by decide), enc1, show r % 256 = r by omega]
  ·rw [if_neg (by decide), if_pos (by decide), enc2, tdiv_pos r 64 (by omega), tmod_pos r 64 (by omega)]
   rw [wrap_in (x := r / 64) (by omega) (by omega), wrap_in (x := 192 + r / 64) (by omega) (by omega), wrap_in (x := 128 + r % 64) (by omega) (by omega), show (192 + r / 64) % 256 = 192 + r / 64 by omega, show (128 + r % 64) % 256 = 128 + r % 64 by omega]
  ·rw [if_neg (by decide), if_neg (by decide), if_pos (by decide), enc3, tdiv_pos r 4096 (by omega), tdiv_pos r 64 (by omega), tmod_pos r 64 (by omega)]
   rw [wrap_in (x := r / 64) (by omega) (by omega), tmod_pos (r / 64) 64 (by omega), wrap_in (x := r / 4096) (by omega) (by omega), wrap_in (x := 224 + r / 4096) (by omega) (by omega), wrap_in (x := 128 + r % 64) (by omega) (by omega), wrap_in (x := 128 + r / 64 % 64) (by omega) (by omega), show (224 + r / 4096) % 256 = 224 + r / 4096 by omega, show (128 + r % 64) % 256 = 128 + r % 64 by omega, show (128 + r / 64 % 64) % 256 = 128 + r / 64 % 64 by omega]
  ·rw [if_neg (by decide), if_neg (by decide), if_neg (by decide), enc4, tdiv_pos r 262144 (by omega), tdiv_pos r 4096 (by omega), tdiv_pos r 64 (by omega), tmod_pos r 64 (by omega)]
   rw [wrap_in (x := r / 64) (by omega) (by omega), wrap_in (x := r / 4096) (by omega) (by omega), tmod_pos (r / 4096) 64 (by omega), tmod_pos (r / 64) 64 (by omega), wrap_in (x := r / 262144) (by omega) (by omega), wrap_in (x := 240 + r / 262144) (by omega) (by omega), wrap_in (x := 128 + r % 64) (by omega) (by omega), wrap_in (x := 128 + r / 64 % 64) (by omega) (by omega), wrap_in (x := 128 + r / 4096 % 64) (by omega) (by omega)]
   rw [show (240 + r / 262144) % 256 = 240 + r / 262144 by omega, show (128 + r % 64) % 256 = 128 + r % 64 by omega, show (128 + r / 64 % 64) % 256 = 128 + r / 64 % 64 by omega, show (128 + r / 4096 % 64) % 256 = 128 + r / 4096 % 64 by omega]
theorem said_f (s : ByteArray) (n : Nat) (h1 : 1 ≤ n) (h4 : n ≤ 4) (hs : n ≤ s.size) : burinref01_said.f s n = some (saidV s n) := by
 have b0 := byteI_in s 0
 have b1 := byteI_in s 1
 have b2 := byteI_in s 2
 have b3 := byteI_in s 3
 have e0 : bt s 0 = byteI s 0 := bt_byteI s 0
 have e1 : bt s 1 = byteI s 1 := bt_byteI s 1
 have e2 : bt s 2 = byteI s 2 := bt_byteI s 2
 have e3 : bt s 3 = byteI s 3 := bt_byteI s 3
 unfold burinref01_said.f
 have hc : n = 1 ∨ n = 2 ∨ n = 3 ∨ n = 4 := by omega
 rcases hc with rfl | rfl | rfl | rfl
 ·rw [if_pos (by decide), if_pos (by omega), e0, wrap_in (x := byteI s 0) (by omega) (by omega)]; rfl
 ·rw [if_neg (by decide), if_pos (by decide), if_pos (by omega), if_pos (by omega), e0, e1]
  rw [wrap_in (x := byteI s 0) (by omega) (by omega), wrap_in (x := byteI s 1) (by omega) (by omega), tmod_pos (byteI s 0) 32 b0.1, tmod_pos (byteI s 1) 64 b1.1, wrap_in (x := byteI s 0 % 32 * 64) (by omega) (by omega), wrap_in (by omega) (by omega)]; rfl
 ·rw [if_neg (by decide), if_neg (by decide), if_pos (by decide), if_pos (by omega), if_pos (by omega), if_pos (by omega), e0, e1, e2]
  rw [wrap_in (x := byteI s 0) (by omega) (by omega), wrap_in (x := byteI s 1) (by omega) (by omega), wrap_in (x := byteI s 2) (by omega) (by omega), tmod_pos (byteI s 0) 16 b0.1, tmod_pos (byteI s 1) 64 b1.1, tmod_pos (byteI s 2) 64 b2.1, wrap_in (x := byteI s 0 % 16 * 4096) (by omega) (by omega), wrap_in (x := byteI s 1 % 64 * 64) (by omega) (by omega), wrap_in (x := byteI s 0 % 16 * 4096 + byteI s 1 % 64 * 64) (by omega) (by omega), wrap_in (by omega) (by omega)]; rfl
 ·rw [if_neg (by decide), if_neg (by decide), if_neg (by decide), if_pos (by omega), if_pos (by omega), if_pos (by omega), if_pos (by omega), e0, e1, e2, e3]
  rw [wrap_in (x := byteI s 0) (by omega) (by omega), wrap_in (x := byteI s 1) (by omega) (by omega), wrap_in (x := byteI s 2) (by omega) (by omega), wrap_in (x := byteI s 3) (by omega) (by omega), tmod_pos (byteI s 0) 8 b0.1, tmod_pos (byteI s 1) 64 b1.1, tmod_pos (byteI s 2) 64 b2.1, tmod_pos (byteI s 3) 64 b3.1, wrap_in (x := byteI s 0 % 8 * 262144) (by omega) (by omega), wrap_in (x := byteI s 1 % 64 * 4096) (by omega) (by omega), wrap_in (x := byteI s 2 % 64 * 64) (by omega) (by omega), wrap_in (x := byteI s 0 % 8 * 262144 + byteI s 1 % 64 * 4096) (by omega) (by omega), wrap_in (x := byteI s 0 % 8 * 262144 + byteI s 1 % 64 * 4096 + byteI s 2 % 64 * 64) (by omega) (by omega), wrap_in (by omega) (by omega)]; rfl
theorem rdec_j1 (s : ByteArray) (n : Nat) (h1 : 1 ≤ n) (h4 : n ≤ 4) (hs : n ≤ s.size) (hno : ∀ r, widthF r = n → ¬ Starts s n r) {v : Int × Int} (h : Ev (fun k => burinref01_Decode.l0 k s ((n + 1 : Nat) : Int)) v) : Ev (fun k => burinref01_Decode.j1 k s n true) v := by
 have e : wrap64 ((n : Int) + 1) = ((n + 1 : Nat) : Int) := wrap_to (by omega) (by omega) (by omega)
 obtain ⟨K, hK⟩ := h
 refine ⟨K + 2, fun k hk => ?_⟩
 obtain ⟨k, rfl⟩ : ∃ j, k = j + 2 := ⟨k - 2, by omega⟩
 have hl := hK (k + 1) (by omega)
 simp only [burinref01_Decode.j1]
 rw [if_pos trivial, said_f s n h1 h4 hs]
 simp only [Option.bind_some, renc_f]
 by_cases h0 : widthF (saidV s n) = 0
 ·rw [if_pos h0]
  simp only [if_neg (show ¬ (1 : Int) = 0 by decide), e]
  exact hl
 ·rw [if_neg h0]
  simp only [if_true, if_pos (show 0 ≤ (n : Int) by omega), if_pos (show (n : Int) ≤ (s.size : Int) by omega)]
  rw [if_neg, e]
  ·exact hl
  ·intro he
   have h2 := (starts_text h0 hs).1 (by rw [Int.toNat_natCast] at he; exact he)
   exact hno _ h2.1 h2.2
theorem rdec_yes (s : ByteArray) (n : Nat) (h1 : 1 ≤ n) (h4 : n ≤ 4) (r : Int) (hr : widthF r = n) (hst : Starts s n r) : Ev (fun k => burinref01_Decode.j1 k s n true) (r, (n : Int)) := by
 have hs := hst.1
 refine ⟨2, fun k hk => ?_⟩
 obtain ⟨k, rfl⟩ : ∃ j, k = j + 2 := ⟨k - 2, by omega⟩
 have hsd := said_starts hr h1 hst
 simp only [burinref01_Decode.j1]
 rw [if_pos trivial, said_f s n h1 h4 hs]
 simp only [Option.bind_some, renc_f, hsd]
 have h0 : widthF r ≠ 0 := by omega
 rw [if_neg h0]
 simp only [if_true, if_pos (show 0 ≤ (n : Int) by omega), if_pos (show (n : Int) ≤ (s.size : Int) by omega)]
 rw [if_pos]
 rw [Int.toNat_natCast]
 exact (starts_text h0 hs).2 ⟨hr, hst⟩
theorem rdec_l0 (s : ByteArray) (h0 : s.size ≠ 0) (d : Nat) : ∀ n : Nat, n + d = 5 → 1 ≤ n → (∀ m, 1 ≤ m → m < n → ∀ r, widthF r = m → ¬ Starts s m r) → Ev (fun k => burinref01_Decode.l0 k s n) (decV s) := by
 have hbad : ∀ n : Nat, (∀ m, 1 ≤ m → m < n → ∀ r, widthF r = m → ¬ Starts s m r) → (4 < n ∨ s.size < n) → decV s = (-1, 1) := by
  intro n hn hc
  rcases decV_cases s with ⟨h, _⟩ | ⟨_, h, _⟩ | ⟨r, h1, h2, _⟩
  ·exact absurd h h0
  ·exact h
  ·exfalso
   have hw := (width_in (show widthF r ≠ 0 by omega)).1
   have := h2.1
   exact hn (widthF r) h1 (by omega) r rfl h2
 induction d with
 | zero =>
  intro n hn h1 hno
  rw [hbad n hno (.inl (by omega))]
  refine Ev.step (f := fun k => burinref01_Decode.j1 k s n false) (fun k => ?_) (Ev.step (f := fun _ => some (-1, 1)) (fun k => ?_) (Ev.now _))
  ·simp only [burinref01_Decode.l0]
   rw [if_neg (by omega)]
  ·simp only [burinref01_Decode.j1]
   rw [if_neg (by decide)]
 | succ d ih =>
  intro n hn h1 hno
  by_cases hs : n ≤ s.size
  ·refine Ev.step (f := fun k => burinref01_Decode.j1 k s n true) (fun k => ?_) ?_
   ·simp only [burinref01_Decode.l0]
    rw [if_pos (by omega), decide_eq_true (by omega)]
   ·by_cases hst : ∃ r, widthF r = n ∧ Starts s n r
    ·obtain ⟨r, hr, hst⟩ := hst
     rw [decV_starts hr h1 hst]
     exact rdec_yes s n h1 (by omega) r hr hst
    ·have hno' : ∀ r, widthF r = n → ¬ Starts s n r := fun r hr h => hst ⟨r, hr, h⟩
     refine rdec_j1 s n h1 (by omega) hs hno' (ih (n + 1) (by omega) (by omega) fun m hm1 hm2 r hr => ?_)
     by_cases e : m = n
     ·subst e; exact hno' r hr
     ·exact hno m hm1 (by omega) r hr
  ·rw [hbad n hno (.inr (by omega))]
   refine Ev.step (f := fun k => burinref01_Decode.j1 k s n false) (fun k => ?_) (Ev.step (f := fun _ => some (-1, 1)) (fun k => ?_) (Ev.now _))
   ·simp only [burinref01_Decode.l0]
    rw [if_pos (by omega), decide_eq_false (by omega)]
   ·simp only [burinref01_Decode.j1]
    rw [if_neg (by decide)]
theorem rdec_ev (s : ByteArray) : Ev (fun k => burinref01_Decode.f k s) (decV s) := by
 unfold burinref01_Decode.f
 by_cases h0 : s.size = 0
 ·have e : s.toList = ([] : List UInt8) := by
   rw [ByteArray.toList_eq]
   exact List.length_eq_zero_iff.1 (by simpa using h0)
  simp only [if_pos e]
  unfold decV
  rw [if_pos h0]
  exact Ev.now _
 ·have e : ¬ s.toList = ([] : List UInt8) := by
   intro e
   rw [ByteArray.toList_eq] at e
   have := congrArg List.length e
   rw [Array.length_toList] at this
   exact h0 this
  simp only [if_neg e]
  exact rdec_l0 s h0 4 1 (by omega) (by omega) (fun m h1 h2 => by omega)
/-- A number: an escape, or a rune. -/
def oneV : List UInt8 → Int × Int × Int
 | [] => (0, 0, 82)
 | c :: t => if (c.toNat : Int) = 92 then escV (c :: t) else if (decV ⟨⟨c :: t⟩⟩).1 < 0 then (0, 0, 3) else ((decV ⟨⟨c :: t⟩⟩).1, (decV ⟨⟨c :: t⟩⟩).2, 0)
theorem one_ev (s : List UInt8) (hs : s.length ≤ 1000000) : Ev (fun k => bracket_one.f k ⟨⟨s⟩⟩) (oneV s) := by
 cases s with
 | nil => exact ev_const fun k => by unfold bracket_one.f; rw [tl, if_pos rfl]; rfl
 | cons c t =>
  have z := sz (c :: t)
  have hb : bt ⟨⟨c :: t⟩⟩ 0 = (c.toNat : Int) := (bt_drop (l := c :: t) (i := 0) rfl).1
  have h0 : ∀ k, bracket_one.f k ⟨⟨c :: t⟩⟩ = if (c.toNat : Int) = 92 then (bracket_Number.f k ⟨⟨c :: t⟩⟩).bind fun bt => some (bt.1, bt.2.1, bt.2.2) else (utf_Decode.f k ⟨⟨c :: t⟩⟩).bind fun bt => if bt.1 < 0 then some (0, 0, 3) else some (bt.1, bt.2, 0) := fun k => by
   unfold bracket_one.f
   rw [tl, if_neg (by simp), z, if_pos (by simp only [List.length_cons]; omega), hb]
  refine Ev.congr h0 ?_
  simp only [oneV]
  by_cases e : (c.toNat : Int) = 92
  ·simp only [if_pos e]
   exact Ev.bind (num_ev (c :: t) hs) (Ev.now _)
  ·simp only [if_neg e]
   refine Ev.bind (dec_ev ⟨⟨c :: t⟩⟩) (ev_const fun k => ?_)
   split <;> rfl
theorem long_out : ∀ (l : List UInt8) (i : Nat) (r : Int), 0 ≤ r → r < 16 ^ (i - 3) → 3 ≤ i → (hexLongV l i r).2.2 = 0 → 0 ≤ (hexLongV l i r).1 ∧ (hexLongV l i r).1 ≤ 1114111 ∧ (i : Int) + 1 ≤ (hexLongV l i r).2.1 ∧ (hexLongV l i r).2.1 ≤ (i : Int) + l.length
 | [], i, r, h0, h1, h3, h => by simp [hexLongV] at h
 | c :: t, i, r, h0, h1, h3, h => by
  have hd := digV_in c.toNat
  unfold hexLongV at h ⊢
  split at h
  ·rename_i g
   rw [if_pos g]
   simp only [List.length_cons]
   omega
  split at h
  ·simp at h
  ·rename_i g1 g2
   rw [if_neg g1, if_neg g2]
   have := long_out t (i + 1) (16 * r + digV c.toNat) (by omega) (by rw [show i + 1 - 3 = (i - 3) + 1 by omega, Int.pow_succ]; omega) (by omega) h
   simp only [List.length_cons]
   omega
theorem short_out (l : List UInt8) (h : (hexShortV l).2.2 = 0) : 0 ≤ (hexShortV l).1 ∧ (hexShortV l).1 ≤ 255 ∧ (hexShortV l).2.1 = 4 ∧ 2 ≤ l.length := by
 match l with
 | [] => simp [hexShortV] at h
 | [a] => simp only [hexShortV] at h; split at h <;> simp at h
 | a :: b :: t =>
  have h1 := digV_in a.toNat
  have h2 := digV_in b.toNat
  simp only [hexShortV] at h ⊢
  split at h
  ·simp at h
  split at h
  ·simp at h
  ·rename_i g1 g2
   rw [if_neg g1, if_neg g2]
   simp only [List.length_cons]
   exact ⟨by omega, by omega, trivial, by omega⟩
theorem plain_in {c v : Int} (h : plainV c = some v) : 0 ≤ v ∧ v ≤ 255 := by
 unfold plainV at h
 repeat' split at h
 all_goals first
  | (cases h; done)
  | (obtain rfl := Option.some.inj h; omega)
theorem esc_out (l : List UInt8) (h : (escV l).2.2 = 0) : 0 ≤ (escV l).1 ∧ (escV l).1 ≤ 1114111 ∧ 2 ≤ (escV l).2.1 ∧ (escV l).2.1 ≤ l.length := by
 match l with
 | [] => simp [escV] at h
 | [c] => simp only [escV] at h; split at h <;> simp at h
 | c :: d :: t =>
  have hd := u8_in d
  simp only [escV, List.length_cons] at h ⊢
  by_cases e : (c.toNat : Int) = 92
  ·rw [if_pos e] at h ⊢
   cases hp : plainV (d.toNat : Int) with
   | some v => have := plain_in hp; dsimp only; omega
   | none =>
    rw [hp] at h
    dsimp only at h ⊢
    by_cases e2 : (d.toNat : Int) = 120
    ·rw [if_pos e2] at h ⊢
     by_cases e3 : t.head? = some 123
     ·rw [if_pos e3] at h ⊢
      have := long_out t.tail 3 0 (by omega) (by decide) (by omega) h
      have hl : t.tail.length + 1 = t.length := by cases t with | nil => cases e3 | cons _ _ => rfl
      omega
     ·rw [if_neg e3] at h ⊢
      have := short_out t h
      omega
    ·rw [if_neg e2] at h ⊢
     split at h
     ·simp at h
     ·rename_i g
      rw [if_neg g]
      dsimp only
      omega
  ·rw [if_neg e] at h
   simp at h
theorem dec_out (l : List UInt8) (h : ¬ (decV ⟨⟨l⟩⟩).1 < 0) : 0 ≤ (decV ⟨⟨l⟩⟩).1 ∧ (decV ⟨⟨l⟩⟩).1 ≤ 1114111 ∧ 1 ≤ (decV ⟨⟨l⟩⟩).2 ∧ (decV ⟨⟨l⟩⟩).2 ≤ l.length := by
 have z := sz l
 rcases decV_cases ⟨⟨l⟩⟩ with ⟨_, h1⟩ | ⟨_, h1, _⟩ | ⟨r, h1, h2, h3⟩
 ·rw [h1] at h; exact absurd (by decide) h
 ·rw [h1] at h; exact absurd (by decide) h
 ·rw [h3]
  have hw := (width_in (r := r) (by omega)).2
  have := h2.1
  dsimp only
  omega
theorem one_out (l : List UInt8) (h : (oneV l).2.2 = 0) : 0 ≤ (oneV l).1 ∧ (oneV l).1 ≤ 1114111 ∧ 1 ≤ (oneV l).2.1 ∧ (oneV l).2.1 ≤ l.length := by
 cases l with
 | nil => simp [oneV] at h
 | cons c t =>
  simp only [oneV] at h ⊢
  by_cases e : (c.toNat : Int) = 92
  ·rw [if_pos e] at h ⊢
   have := esc_out (c :: t) h
   omega
  ·rw [if_neg e] at h ⊢
   by_cases e2 : (decV ⟨⟨c :: t⟩⟩).1 < 0
   ·rw [if_pos e2] at h; simp at h
   ·rw [if_neg e2]
    exact dec_out (c :: t) e2
theorem cutL_len (c : UInt8) : ∀ (s t : List UInt8), (cutL c s).2 = some t → (cutL c s).1.length + 1 ≤ s.length
 | [], t, h => by simp [cutL] at h
 | b :: u, t, h => by
  unfold cutL at h ⊢
  by_cases e : b = c
  ·simp only [if_pos e, List.length_nil, List.length_cons]; omega
  ·simp only [if_neg e] at h ⊢
   have := cutL_len c u t h
   simp only [List.length_cons]
   omega
theorem pro_out (neg : Bool) (nm : List UInt8) (n : Int) (h : (proV neg nm n).2.2 = 0) : (proV neg nm n).2.1 = n := by
 unfold proV at h ⊢
 split at h
 ·rename_i g; rw [if_pos g]
 ·simp at h
theorem set_few (l : List UInt8) (h : (setV l).2.2 = 0) : (setV l).1.length ≤ 700 ∨ 3 ≤ (setV l).2.1 := by
 match l with
 | [] => simp [setV] at h
 | [c] => simp only [setV] at h; split at h <;> simp at h
 | c :: d :: t =>
  simp only [setV] at h ⊢
  by_cases e : (c.toNat : Int) = 92
  ·rw [if_pos e] at h ⊢
   by_cases e1 : isLet d.toNat = true
   ·rw [if_pos e1]
    have hd := u8_in d
    exact .inl (let_ev hd.1 hd.2).2.2
   ·rw [if_neg e1] at h ⊢
    by_cases e2 : (d.toNat : Int) = 112 ∨ (d.toNat : Int) = 80
    ·rw [if_pos e2] at h ⊢
     cases t with
     | nil => simp [propV] at h
     | cons f v =>
      simp only [propV] at h ⊢
      by_cases e3 : (f.toNat : Int) = 123
      ·rw [if_pos e3] at h ⊢
       cases hq : (cutL 125 v).2 with
       | none => rw [hq] at h; simp at h
       | some x =>
        rw [hq] at h
        dsimp only at h ⊢
        rw [pro_out _ _ _ h]
        omega
      ·rw [if_neg e3] at h ⊢
       by_cases e4 : letB f.toNat = true
       ·rw [if_pos e4] at h ⊢
        rw [pro_out _ _ _ h]
        omega
       ·rw [if_neg e4] at h
        simp at h
    ·rw [if_neg e2] at h
     simp at h
  ·rw [if_neg e] at h
   simp at h
theorem set_out (l : List UInt8) (h : (setV l).2.2 = 0) : 2 ≤ (setV l).2.1 ∧ (setV l).2.1 ≤ l.length := by
 match l with
 | [] => simp [setV] at h
 | [c] => simp only [setV] at h; split at h <;> simp at h
 | c :: d :: t =>
  simp only [setV, List.length_cons] at h ⊢
  by_cases e : (c.toNat : Int) = 92
  ·rw [if_pos e] at h ⊢
   by_cases e1 : isLet d.toNat = true
   ·rw [if_pos e1] at h ⊢
    dsimp only
    omega
   ·rw [if_neg e1] at h ⊢
    by_cases e2 : (d.toNat : Int) = 112 ∨ (d.toNat : Int) = 80
    ·rw [if_pos e2] at h ⊢
     cases t with
     | nil => simp [propV] at h
     | cons f v =>
      simp only [propV, List.length_cons] at h ⊢
      by_cases e3 : (f.toNat : Int) = 123
      ·rw [if_pos e3] at h ⊢
       cases hq : (cutL 125 v).2 with
       | none => rw [hq] at h; simp at h
       | some x =>
        rw [hq] at h
        dsimp only at h ⊢
        rw [pro_out _ _ _ h]
        have := cutL_len 125 v x hq
        omega
      ·rw [if_neg e3] at h ⊢
       by_cases e4 : letB f.toNat = true
       ·rw [if_pos e4] at h ⊢
        rw [pro_out _ _ _ h]
        omega
       ·rw [if_neg e4] at h
        simp at h
    ·rw [if_neg e2] at h
     simp at h
  ·rw [if_neg e] at h
   simp at h
/-- The second half of a span. -/
def spanV (lo n : Int) (v : List UInt8) : List S36 × Int × Int :=
 if (setV v).2.2 ≠ 5 ∧ (setV v).2.2 ≠ 3 then ([], n + 1, 70) else if (oneV v).2.2 ≠ 0 then ([], n + 1, (oneV v).2.2) else if (oneV v).1 < lo then ([], 0, 70) else ([⟨lo, (oneV v).1⟩], n + 1 + (oneV v).2.1, 0)
def tailV (lo n : Int) : List UInt8 → List S36 × Int × Int
 | a :: b :: u => if a = 45 ∧ b ≠ 93 then spanV lo n (b :: u) else ([⟨lo, lo⟩], n, 0)
 | _ => ([⟨lo, lo⟩], n, 0)
abbrev colCut (l : List UInt8) := Lib.cut (l.drop 2) [58, 93]
/-- An item: what it says, how many bytes it has, or where it is wrong. -/
def itemV (l : List UInt8) : List S36 × Int × Int :=
 if l.take 2 = [91, 58] then (if (colCut l).2.2 = true then (if (turnV colTab (colCut l).1).2 = 0 then ((turnV colTab (colCut l).1).1.map toRg, 4 + ((colCut l).1.length : Int), 0) else ([], 0, 70)) else ([], 0, 82))
 else if (setV l).2.2 = 0 then setV l else if (setV l).2.2 ≠ 5 ∧ (setV l).2.2 ≠ 3 then ([], 0, (setV l).2.2) else if (oneV l).2.2 ≠ 0 then ([], 0, (oneV l).2.2) else tailV (oneV l).1 (oneV l).2.1 (l.drop (oneV l).2.1.toNat)
def shiftV (n : Int) (q : List S36 × Int × Int) : List S36 × Int × Int := (q.1, n + q.2.1, q.2.2)
theorem cut_bound (s sep : List UInt8) (h : (Lib.cut s sep).2.2 = true) : (Lib.cut s sep).1.length + sep.length ≤ s.length := by
 unfold Lib.cut at h ⊢
 split at h
 ·rename_i g
  rw [if_pos g]
  have := Lib.index_room s sep g
  simp only [List.length_take]
  omega
 ·cases h
theorem span_out (lo n : Int) (v : List UInt8) (h : (spanV lo n v).2.2 = 0) : n + 2 ≤ (spanV lo n v).2.1 ∧ (spanV lo n v).2.1 ≤ n + 1 + v.length ∧ (spanV lo n v).1.length = 1 := by
 unfold spanV at h ⊢
 split at h
 ·simp at h
 ·rename_i g
  split at h
  ·rename_i g2; exact absurd h g2
  ·rename_i g2
   split at h
   ·simp at h
   ·rename_i g3
    rw [if_neg g, if_neg g2, if_neg g3]
    have := one_out v (Decidable.not_not.1 g2)
    dsimp only
    exact ⟨by omega, by omega, rfl⟩
theorem tail_out (lo n : Int) (l : List UInt8) (h : (tailV lo n l).2.2 = 0) : n ≤ (tailV lo n l).2.1 ∧ (tailV lo n l).2.1 ≤ n + l.length ∧ (tailV lo n l).1.length = 1 := by
 match l with
 | [] => exact ⟨Int.le_refl _, by simp [tailV], rfl⟩
 | [a] => exact ⟨Int.le_refl _, by simp [tailV]; omega, rfl⟩
 | a :: b :: u =>
  simp only [tailV] at h ⊢
  split at h
  ·rename_i g
   rw [if_pos g]
   have := span_out lo n (b :: u) h
   simp only [List.length_cons] at this ⊢
   omega
  ·rename_i g
   rw [if_neg g]
   simp only [List.length_cons]
   exact ⟨Int.le_refl _, by omega, rfl⟩
/-- What an item that is right takes and gives. -/
theorem item_out (l : List UInt8) (h : (itemV l).2.2 = 0) : 1 ≤ (itemV l).2.1 ∧ (itemV l).2.1 ≤ l.length ∧ ((itemV l).1.length : Int) ≤ 400 * (itemV l).2.1 := by
 unfold itemV at h ⊢
 by_cases e : l.take 2 = [91, 58]
 ·rw [if_pos e] at h ⊢
  by_cases e2 : (colCut l).2.2 = true
  ·rw [if_pos e2] at h ⊢
   by_cases e3 : (turnV colTab (colCut l).1).2 = 0
   ·rw [if_pos e3]
    have h1 := (turn_fact col_tab.2 (colCut l).1).2.1
    have h2 : (colCut l).1.length + [58, 93].length ≤ (l.drop 2).length := cut_bound _ _ e2
    have h3 : 2 ≤ l.length := by
     have := congrArg List.length e
     rw [List.length_take] at this
     simp at this
     omega
    rw [List.length_drop] at h2
    simp only [List.length_cons, List.length_nil] at h2
    dsimp only
    rw [List.length_map]
    omega
   ·rw [if_neg e3] at h; simp at h
  ·rw [if_neg e2] at h; simp at h
 ·rw [if_neg e] at h ⊢
  by_cases e1 : (setV l).2.2 = 0
  ·rw [if_pos e1] at h ⊢
   have := set_out l h
   have h2 := set_small l
   have h3 := set_few l h
   omega
  ·rw [if_neg e1] at h ⊢
   by_cases e2 : (setV l).2.2 ≠ 5 ∧ (setV l).2.2 ≠ 3
   ·rw [if_pos e2] at h; exact absurd h e1
   ·rw [if_neg e2] at h ⊢
    by_cases e3 : (oneV l).2.2 ≠ 0
    ·rw [if_pos e3] at h; exact absurd h e3
    ·rw [if_neg e3] at h ⊢
     have h1 := one_out l (Decidable.not_not.1 e3)
     have h2 := tail_out _ _ _ h
     rw [List.length_drop] at h2
     omega
theorem prefix_ev (l : List UInt8) : strings_HasPrefix.f ⟨⟨l⟩⟩ (⟨#[91, 58]⟩ : ByteArray) = some (decide (l.take 2 = [91, 58])) := by
 unfold strings_HasPrefix.f stringslite_HasPrefix.f
 have h1 : (⟨#[91, 58]⟩ : ByteArray).size = 2 := rfl
 have h2 : (⟨#[91, 58]⟩ : ByteArray).toList = [91, 58] := by rw [ByteArray.toList_eq]
 rw [sz, h1]
 by_cases e : (l.length : Int) ≥ ((2 : Nat) : Int)
 ·rw [if_pos e, if_pos (by omega), if_pos e, h2, ex_list, tl, Option.bind_some]
  congr 1
  rw [Bool.eq_iff_iff]
  simp
 ·rw [if_neg e, decide_eq_false]
  ·rfl
  ·intro h
   have := congrArg List.length h
   rw [List.length_take] at this
   simp at this
   omega
theorem span_ev (s : List UInt8) (hs : s.length ≤ 1000000) (at_ n : Nat) (lo : Int) (v : List UInt8) (h : s.drop (at_ + n + 1) = v) (hl : at_ + n + 1 ≤ s.length) : Ev (fun k => bracket_span.f k ⟨⟨s⟩⟩ at_ (at_ + n + 1) lo) (shiftV at_ (spanV lo n v)) := by
 have z := sz s
 have hex : (ByteArray.mk ⟨s⟩).extract (at_ + n + 1) (ByteArray.mk ⟨s⟩).size = ⟨⟨v⟩⟩ := by
  rw [z, ex_list, List.take_of_length_le (by rw [List.length_drop]; omega), h]
 have hv : v.length ≤ 1000000 := by rw [← h, List.length_drop]; omega
 have hvl : v.length = s.length - (at_ + n + 1) := by rw [← h, List.length_drop]
 refine Ev.congr (f := fun k => (bracket_Set.f k ⟨⟨v⟩⟩).bind fun q => if q.2.2 ≠ 5 ∧ q.2.2 ≠ 3 then some ([], ((at_ + n + 1 : Nat) : Int), 70) else (bracket_one.f k ⟨⟨v⟩⟩).bind fun p => if p.2.2 ≠ 0 then some ([], ((at_ + n + 1 : Nat) : Int), p.2.2) else if p.1 < lo then some ([], (at_ : Int), 70) else if 0 ≤ p.2.1 ∧ p.2.1 ≤ s.length then some ([⟨lo, p.1⟩], ((at_ + n + 1 : Nat) : Int) + p.2.1, 0) else none) (fun k => by
  unfold bracket_span.f
  rw [if_pos (by omega), hex, z]) ?_
 refine Ev.bind (set_ev v hv) ?_
 unfold spanV shiftV
 have hc : ((at_ + n + 1 : Nat) : Int) = (at_ : Int) + ((n : Int) + 1) := by omega
 simp only [hc]
 by_cases e : (setV v).2.2 ≠ 5 ∧ (setV v).2.2 ≠ 3
 ·simp only [if_pos e]
  exact ev_const fun _ => rfl
 ·simp only [if_neg e]
  refine Ev.bind (one_ev v hv) (ev_const fun _ => ?_)
  by_cases e2 : (oneV v).2.2 ≠ 0
  ·simp only [if_pos e2]
  ·simp only [if_neg e2]
   by_cases e3 : (oneV v).1 < lo
   ·simp only [if_pos e3, Int.add_zero]
   ·simp only [if_neg e3]
    have := one_out v (Decidable.not_not.1 e2)
    rw [if_pos (by omega), Int.add_assoc]
theorem item_ev (s : List UInt8) (hs : s.length ≤ 1000000) (at_ : Nat) (l : List UInt8) (h : s.drop at_ = l) (ha : at_ ≤ s.length) : Ev (fun k => bracket_item.f k ⟨⟨s⟩⟩ at_) (shiftV at_ (itemV l)) := by
  have z := sz s
  have hex : (ByteArray.mk ⟨s⟩).extract at_ (ByteArray.mk ⟨s⟩).size = ⟨⟨l⟩⟩ := by
    rw [z, ex_list, List.take_of_length_le (by rw [List.length_drop]; omega), h]
  have hv : l.length ≤ 1000000 := by rw [← h, List.length_drop]; omega
  have hvl : l.length = s.length - at_ := by rw [← h, List.length_drop]
  have h0 : ∀ k, bracket_item.f k ⟨⟨s⟩⟩ at_ = if l.take 2 = [91, 58] then (if (colCut l).2.2 = true then (class_Colon.f k ⟨⟨(colCut l).1⟩⟩).bind fun q => if q.2 = 0 then some (q.1, (at_ : Int) + 2 + ((colCut l).1.length : Int) + 2, 0) else some ([], (at_ : Int), q.2) else some ([], (at_ : Int), 82))
      else (bracket_Set.f k ⟨⟨l⟩⟩).bind fun q => if q.2.2 = 0 then (if 0 ≤ q.2.1 ∧ q.2.1 ≤ s.length then some (q.1, (at_ : Int) + q.2.1, 0) else none) else if q.2.2 ≠ 5 ∧ q.2.2 ≠ 3 then some ([], (at_ : Int), q.2.2) else
      (bracket_one.f k ⟨⟨l⟩⟩).bind fun p => if p.2.2 ≠ 0 then some ([], (at_ : Int), p.2.2) else if 0 ≤ p.2.1 ∧ p.2.1 ≤ s.length then
        (if (s.length : Int) ≤ (at_ : Int) + p.2.1 + 1 ∨ bt ⟨⟨s⟩⟩ ((at_ : Int) + p.2.1) ≠ 45 ∨ bt ⟨⟨s⟩⟩ ((at_ : Int) + p.2.1 + 1) = 93 then some ([⟨p.1, p.1⟩], (at_ : Int) + p.2.1, 0)
         else bracket_span.f k ⟨⟨s⟩⟩ at_ ((at_ : Int) + p.2.1 + 1).toNat p.1) else none := fun k => by
    unfold bracket_item.f
    rw [if_pos (by omega), hex, prefix_ev, Option.bind_some]
    by_cases e : l.take 2 = [91, 58]
    · have hl2 : 2 ≤ l.length := by
        have := congrArg List.length e
        rw [List.length_take] at this
        simp at this
        omega
      rw [if_pos (decide_eq_true e), if_pos e, sz, if_pos hl2, ex_list, List.take_of_length_le (by rw [List.length_drop]; omega)]
    · rw [if_neg (by simpa using e), if_neg e, z]
      congr 1
      funext q
      congr 2
      congr 1
      funext p
      congr 1
      rw [tl]
      by_cases e2 : l = []
      · rw [if_pos e2]
        subst e2
        simp at hvl
        have : s.length = at_ := by omega
        rw [this]
      · rw [if_neg e2]
  refine Ev.congr h0 ?_
  unfold itemV shiftV
  by_cases e : l.take 2 = [91, 58]
  · simp only [if_pos e]
    by_cases e2 : (colCut l).2.2 = true
    · simp only [if_pos e2]
      refine Ev.bind (col_ev (colCut l).1) (ev_const fun _ => ?_)
      rcases (turn_fact col_tab.2 (colCut l).1).2.2 with e3 | e3
      · simp only [if_pos e3]
        congr 3
        omega
      · rw [e3]
        rfl
    · simp only [if_neg e2, Int.add_zero]
      exact Ev.now _
  · simp only [if_neg e]
    refine Ev.bind (set_ev l hv) ?_
    by_cases e1 : (setV l).2.2 = 0
    · simp only [if_pos e1]
      have := set_out l e1
      refine ev_const fun _ => ?_
      rw [if_pos (by omega), e1]
    · simp only [if_neg e1]
      by_cases e2 : (setV l).2.2 ≠ 5 ∧ (setV l).2.2 ≠ 3
      · simp only [if_pos e2, Int.add_zero]
        exact Ev.now _
      · simp only [if_neg e2]
        refine Ev.bind (one_ev l hv) ?_
        by_cases e3 : (oneV l).2.2 ≠ 0
        · simp only [if_pos e3, Int.add_zero]
          exact Ev.now _
        · simp only [if_neg e3]
          have ho := one_out l (Decidable.not_not.1 e3)
          obtain ⟨n, hn⟩ : ∃ n : Nat, (oneV l).2.1 = n := ⟨(oneV l).2.1.toNat, by omega⟩
          rw [hn]
          generalize (oneV l).1 = lo at ho
          have hnl : n ≤ l.length := by omega
          have hin : 0 ≤ (n : Int) ∧ (n : Int) ≤ s.length := by omega
          simp only [if_pos hin, Int.toNat_natCast]
          have hdr : s.drop (at_ + n) = l.drop n := by rw [← h, List.drop_drop]
          cases hq : l.drop n with
          | nil =>
            have : l.length ≤ n := List.drop_eq_nil_iff.1 hq
            refine ev_const fun _ => ?_
            rw [if_pos (.inl (by omega))]
            rfl
          | cons a u =>
            rw [hq] at hdr
            obtain ⟨hb1, hi1, ht1⟩ := bt_drop hdr
            rw [show ((at_ + n : Nat) : Int) = (at_ : Int) + n by omega] at hb1
            cases u with
            | nil =>
              have hlen := congrArg List.length hdr
              rw [List.length_drop] at hlen
              simp at hlen
              refine ev_const fun _ => ?_
              rw [if_pos (.inl (by omega))]
              rfl
            | cons b v =>
              obtain ⟨hb2, hi2, ht2⟩ := bt_drop ht1
              rw [show ((at_ + n + 1 : Nat) : Int) = (at_ : Int) + n + 1 by omega] at hb2
              simp only [tailV, hb1, hb2]
              by_cases g : a = 45 ∧ b ≠ 93
              · have g2 : ¬ ((s.length : Int) ≤ (at_ : Int) + n + 1 ∨ (a.toNat : Int) ≠ 45 ∨ (b.toNat : Int) = 93) := by
                  intro hh
                  rcases hh with hh | hh | hh
                  · omega
                  · exact hh (by rw [g.1]; rfl)
                  · exact g.2 (u8_eq (n := 93) hh (by omega))
                simp only [if_pos g, if_neg g2]
                rw [show ((at_ : Int) + n + 1).toNat = at_ + n + 1 by omega]
                exact span_ev s hs at_ n lo (b :: v) ht1 (by omega)
              · have g2 : (s.length : Int) ≤ (at_ : Int) + n + 1 ∨ (a.toNat : Int) ≠ 45 ∨ (b.toNat : Int) = 93 := by
                  by_cases ha : a = 45
                  · have hb : b = 93 := Decidable.byContradiction fun hb => g ⟨ha, hb⟩
                    exact .inr (.inr (by rw [hb]; rfl))
                  · exact .inr (.inl fun hh => ha (u8_eq (n := 45) hh (by omega)))
                simp only [if_neg g, if_pos g2]
                exact Ev.now _
theorem span_bad (lo n : Int) (v : List UInt8) (h : (spanV lo n v).2.2 ≠ 0) : (spanV lo n v).1 = [] := by
 unfold spanV at h ⊢
 split
 ·rfl
 ·split
  ·rfl
  ·split
   ·rfl
   ·rename_i g1 g2 g3
    rw [if_neg g1, if_neg g2, if_neg g3] at h
    exact absurd rfl h
theorem tail_bad (lo n : Int) (l : List UInt8) (h : (tailV lo n l).2.2 ≠ 0) : (tailV lo n l).1 = [] := by
 match l with
 | [] => exact absurd rfl h
 | [a] => exact absurd rfl h
 | a :: b :: u =>
  simp only [tailV] at h ⊢
  split at h
  ·rename_i g
   rw [if_pos g]
   exact span_bad _ _ _ h
  ·exact absurd rfl h
theorem item_bad (l : List UInt8) (h : (itemV l).2.2 ≠ 0) : (itemV l).1 = [] := by
 unfold itemV at h ⊢
 split
 ·rename_i e
  rw [if_pos e] at h
  split
  ·rename_i e2
   rw [if_pos e2] at h
   split
   ·rename_i e3
    rw [if_pos e3] at h
    exact absurd rfl h
   ·rfl
  ·rfl
 ·rename_i e
  rw [if_neg e] at h
  split
  ·rename_i e1
   rw [if_pos e1] at h
   exact absurd e1 h
  ·rename_i e1
   rw [if_neg e1] at h
   split
   ·rfl
   ·rename_i e2
    rw [if_neg e2] at h
    split
    ·rfl
    ·rename_i e3
     rw [if_neg e3] at h
     exact tail_bad _ _ _ h
/-- The items, one behind the other: what was collected, or where it is wrong. -/
def brL : Nat → List UInt8 → Bool → Int → List S36 → List S36 × Int × Int
 | 0, _, _, at_, _ => ([], at_, 82)
 | f + 1, l, first, at_, acc => if first = true ∨ (l ≠ [] ∧ l.head? ≠ some 93) then (if (itemV l).2.2 ≠ 0 then ([], at_ + (itemV l).2.1, (itemV l).2.2) else brL f (l.drop (itemV l).2.1.toNat) false (at_ + (itemV l).2.1) (acc ++ (itemV l).1)) else if l = [] then ([], at_, 82) else (acc, at_, 0)
theorem br_ev (s : List UInt8) (hs : s.length ≤ 249) (F : Nat) : ∀ (fuel : Nat) (l : List UInt8) (at_ : Nat) (first : Bool) (acc : List S36), s.drop at_ = l → l.length < fuel → at_ ≤ s.length → F ≤ at_ → (first = true ↔ at_ = F) → acc.length ≤ 400 * at_ → Ev (fun k => bracket_Bracket.l0 k ⟨⟨s⟩⟩ F at_ acc) (brL fuel l first at_ acc)
 | 0, l, at_, first, acc, h, hf, ha, hF, hfi, hacc => absurd hf (Nat.not_lt_zero _)
 | fuel + 1, l, at_, first, acc, h, hf, ha, hF, hfi, hacc => by
  have z := sz s
  have hvl : l.length = s.length - at_ := by rw [← h, List.length_drop]
  have hcond : (at_ = F ∨ ((at_ : Int) < (s.length : Int) ∧ bt ⟨⟨s⟩⟩ at_ ≠ 93)) ↔ (first = true ∨ (l ≠ [] ∧ l.head? ≠ some 93)) := by
   rw [hfi]
   cases l with
   | nil =>
    simp at hvl
    constructor
    ·rintro (h1 | h1)
     ·exact .inl h1
     ·omega
    ·rintro (h1 | h1)
     ·exact .inl h1
     ·exact absurd rfl h1.1
   | cons c t =>
    obtain ⟨hb, hi, _⟩ := bt_drop h
    rw [hb]
    constructor
    ·rintro (h1 | h1)
     ·exact .inl h1
     ·exact .inr ⟨by simp, by simp; intro e; exact h1.2 (by rw [e]; rfl)⟩
    ·rintro (h1 | h1)
     ·exact .inl h1
     ·refine .inr ⟨by omega, fun e => h1.2 ?_⟩
      rw [u8_eq (n := 93) e (by omega)]
      rfl
  rw [brL]
  by_cases g : first = true ∨ (l ≠ [] ∧ l.head? ≠ some 93)
  ·rw [if_pos g]
   refine Ev.step (f := fun k => (bracket_item.f k ⟨⟨s⟩⟩ at_).bind fun q => if acc.length + q.1.length ≤ 100000 then (if q.2.2 ≠ 0 then some ([], q.2.1, q.2.2) else if 0 ≤ q.2.1 then bracket_Bracket.l0 k ⟨⟨s⟩⟩ F q.2.1.toNat (acc ++ q.1) else none) else none) (fun k => by rw [bracket_Bracket.l0, z, if_pos (hcond.2 g)]) (Ev.bind (item_ev s (by omega) at_ l h ha) ?_)
   unfold shiftV
   by_cases e : (itemV l).2.2 ≠ 0
   ·rw [if_pos e, item_bad l e]
    refine ev_const fun _ => ?_
    rw [if_pos (by simp; omega), if_pos e]
   ·rw [if_neg e]
    have ho := item_out l (Decidable.not_not.1 e)
    obtain ⟨n, hn⟩ : ∃ n : Nat, (itemV l).2.1 = n := ⟨(itemV l).2.1.toNat, by omega⟩
    rw [hn] at ho ⊢
    have ih := br_ev s hs F fuel (l.drop n) (at_ + n) false (acc ++ (itemV l).1) (by rw [← h, List.drop_drop]) (by rw [List.length_drop]; omega) (by omega) (by omega) ⟨fun h => (by cases h), fun h => (by omega)⟩ (by rw [List.length_append]; omega)
    rw [show ((at_ + n : Nat) : Int) = (at_ : Int) + n by omega] at ih
    refine Ev.congr (fun k => ?_) ih
    dsimp only
    rw [if_pos (by omega), if_neg e, if_pos (by omega), show ((at_ : Int) + (n : Int)).toNat = at_ + n by omega]
  ·rw [if_neg g]
   refine Ev.step (f := fun _ => if (s.length : Int) ≤ (at_ : Int) then some ([], (s.length : Int), 82) else some (acc, (at_ : Int), 0)) (fun k => by rw [bracket_Bracket.l0, z, if_neg (fun h => g (hcond.1 h))]) ?_
   by_cases e : l = []
   ·rw [if_pos e]
    subst e
    simp at hvl
    exact ev_const fun _ => by rw [if_pos (by omega), show s.length = at_ by omega]
   ·rw [if_neg e]
    have : 0 < l.length := List.length_pos_iff.2 e
    exact ev_const fun _ => by rw [if_neg (by omega)]
def foldB (flags : Int) : Bool := decide (Go.bits .and .i64 flags 1 ≠ 0)
def madeL (neg fold : Bool) (l : List (Int × Int)) : List (Int × Int) := normL (if neg then notL (if fold then closeL l else l) else (if fold then closeL l else l))
/-- A set between brackets. -/
def brV (s : List UInt8) (flags : Int) : List S36 × Int × Int :=
 if s.head? ≠ some 91 then ([], 0, 3) else
 let neg := decide ((s.drop 1).head? = some 94)
 let F := if neg then 2 else 1
 let q := brL (s.length + 1) (s.drop F) true F []
 if q.2.2 ≠ 0 then q else ((madeL neg (foldB flags) (q.1.map ofRg)).map toRg, q.2.1 + 1, 0)
theorem brL_len : ∀ (fuel : Nat) (l : List UInt8) (first : Bool) (at_ : Int) (acc : List S36), (acc.length : Int) ≤ 400 * at_ → 0 ≤ at_ → ((brL fuel l first at_ acc).1.length : Int) ≤ 400 * (at_ + l.length)
 | 0, l, first, at_, acc, h, h0 => by simp [brL]; omega
 | fuel + 1, l, first, at_, acc, h, h0 => by
  rw [brL]
  split
  ·split
   ·simp; omega
   ·rename_i g e
    have ho := item_out l (Decidable.not_not.1 e)
    have := brL_len fuel (l.drop (itemV l).2.1.toNat) false (at_ + (itemV l).2.1) (acc ++ (itemV l).1) (by rw [List.length_append]; omega) (by omega)
    rw [List.length_drop] at this
    omega
  ·split
   ·simp; omega
   ·dsimp only; omega
theorem bracket_of (t : List UInt8) (hs : t.length ≤ 999998) (flags : Int) (neg : Bool) (hn : neg = decide (t.head? = some 94)) {q : List S36 × Int × Int} (hl0 : Ev (fun k => bracket_Bracket.l0 k ⟨⟨91 :: t⟩⟩ (if neg then 2 else 1) (if neg then 2 else 1) []) q) (hq : q.1.length ≤ 100000) :
  Ev (fun k => bracket_Bracket.f k ⟨⟨91 :: t⟩⟩ flags) (if q.2.2 ≠ 0 then q else ((madeL neg (foldB flags) (q.1.map ofRg)).map toRg, q.2.1 + 1, 0)) := by
 have z := sz (91 :: t)
 have hb : bt ⟨⟨91 :: t⟩⟩ 0 = 91 := (bt_drop (l := 91 :: t) (i := 0) rfl).1
 have hneg : (1 < ((91 :: t : List UInt8).length : Int) ∧ bt ⟨⟨91 :: t⟩⟩ 1 = 94) ↔ t.head? = some 94 := by
  cases t with
  | nil => simp
  | cons d u =>
   have hb1 : bt ⟨⟨91 :: d :: u⟩⟩ 1 = (d.toNat : Int) := (bt_drop (l := 91 :: d :: u) (i := 1) rfl).1
   rw [hb1]
   constructor
   ·intro h
    rw [u8_eq (n := 94) h.2 (by omega)]
    rfl
   ·intro h
    have hd : d = 94 := by simpa using h
    exact ⟨by simp only [List.length_cons]; omega, by rw [hd]; rfl⟩
 have hFn : neg = true ↔ t.head? = some 94 := by rw [hn, decide_eq_true_eq]
 have h0 : ∀ k, bracket_Bracket.f k ⟨⟨91 :: t⟩⟩ flags = (bracket_Bracket.l0 k ⟨⟨91 :: t⟩⟩ (if neg then 2 else 1) (if neg then 2 else 1) []).bind fun q => if q.2.2 ≠ 0 then some q else (if (Go.bits .and .i64 flags 1) ≠ 0 then fold_Close.f q.1 else some q.1).bind fun a => (if neg = true then ranges_Not.f k a else some a).bind fun b => (ranges_Norm.f k b).bind fun c => some (c, q.2.1 + 1, 0) := fun k => by
  have hiff : (1 < ((91 :: t : List UInt8).length : Int) ∧ bt ⟨⟨91 :: t⟩⟩ 1 = 94) ↔ neg = true := hneg.trans hFn.symm
  unfold bracket_Bracket.f
  rw [z, if_pos (by simp only [List.length_cons]; omega), tl, if_neg (by simp), hb, if_neg (by omega)]
  simp only [hiff]
 refine Ev.congr h0 (Ev.bind hl0 ?_)
 obtain ⟨q1, q2, q3⟩ := q
 dsimp only at hq ⊢
 by_cases e3 : q3 ≠ 0
 ·simp only [if_pos e3]
  exact Ev.now _
 ·simp only [if_neg e3]
  unfold madeL foldB
  have hcl : (if (Go.bits .and .i64 flags 1) ≠ 0 then fold_Close.f q1 else some q1) = some ((if decide (Go.bits .and .i64 flags 1 ≠ 0) = true then closeL (q1.map ofRg) else q1.map ofRg).map toRg) := by
   by_cases ef : (Go.bits .and .i64 flags 1) ≠ 0
   ·rw [if_pos ef, if_pos (decide_eq_true ef)]
    unfold fold_Close.f
    rw [if_pos hq]
   ·rw [if_neg ef, if_neg (by rw [decide_eq_true_eq]; exact ef), map_back]
  rw [hcl]
  have hA : (if decide (Go.bits .and .i64 flags 1 ≠ 0) = true then closeL (q1.map ofRg) else q1.map ofRg).length ≤ 200000 := by
   have := close_len (q1.map ofRg)
   split
   ·rw [List.length_map] at this; omega
   ·rw [List.length_map]; omega
  generalize (if decide (Go.bits .and .i64 flags 1 ≠ 0) = true then closeL (q1.map ofRg) else q1.map ofRg) = A at hA ⊢
  simp only [Option.bind_some]
  cases neg with
  | true =>
   simp only [if_true]
   have hNot := not_ev (A.map toRg) (by rw [List.length_map]; omega)
   rw [map_forth] at hNot
   refine Ev.bind hNot ?_
   have hN := norm_ev ((notL A).map toRg) (by rw [List.length_map]; have := notL_len A; omega)
   rw [map_forth] at hN
   exact Ev.bind hN (Ev.now _)
  | false =>
   simp only [Bool.false_eq_true, if_false, Option.bind_some]
   have hN := norm_ev (A.map toRg) (by rw [List.length_map]; omega)
   rw [map_forth] at hN
   exact Ev.bind hN (Ev.now _)
theorem bracket_ev (s : List UInt8) (hs : s.length ≤ 249) (flags : Int) : Ev (fun k => bracket_Bracket.f k ⟨⟨s⟩⟩ flags) (brV s flags) := by
 have z := sz s
 cases s with
 | nil => exact ev_const fun k => by unfold bracket_Bracket.f; rw [z, if_pos (by simp), tl, if_pos rfl]; rfl
 | cons c t =>
  have hb : bt ⟨⟨c :: t⟩⟩ 0 = (c.toNat : Int) := (bt_drop (l := c :: t) (i := 0) rfl).1
  simp only [List.length_cons] at hs
  by_cases e : (c.toNat : Int) = 91
  ·obtain rfl : c = 91 := u8_eq (n := 91) e (by omega)
   have hF2 : (if decide (t.head? = some 94) = true then 2 else 1) ≤ (91 :: t : List UInt8).length := by
    split
    ·rename_i h
     have h94 := of_decide_eq_true h
     cases t with
     | nil => cases h94
     | cons d u => simp
    ·simp
   obtain ⟨F, hF⟩ : ∃ F : Nat, (if decide (t.head? = some 94) = true then 2 else 1) = F := ⟨_, rfl⟩
   rw [hF] at hF2
   have hl0 := br_ev (91 :: t) (by simp only [List.length_cons]; omega) F ((91 :: t : List UInt8).length + 1) ((91 :: t : List UInt8).drop F) F true [] rfl (by rw [List.length_drop]; omega) hF2 (Nat.le_refl _) ⟨fun _ => rfl, fun _ => rfl⟩ (by simp)
   have hlen := brL_len ((91 :: t : List UInt8).length + 1) ((91 :: t : List UInt8).drop F) true F [] (by simp; omega) (by omega)
   rw [List.length_drop] at hlen
   have hq : (brL ((91 :: t : List UInt8).length + 1) ((91 :: t : List UInt8).drop F) true F []).1.length ≤ 100000 := by
    generalize (brL ((91 :: t : List UInt8).length + 1) ((91 :: t : List UInt8).drop F) true F []).1.length = Q at hlen
    simp only [List.length_cons] at hlen hF2
    omega
   have main := bracket_of t (by omega) flags (decide (t.head? = some 94)) rfl (q := brL ((91 :: t : List UInt8).length + 1) ((91 :: t : List UInt8).drop F) true F []) (by rw [hF]; exact hl0) hq
   unfold brV
   rw [if_neg (by simp)]
   have hhead : ((91 :: t : List UInt8).drop 1).head? = t.head? := rfl
   simp only [hhead, hF]
   exact main
  ·unfold brV
   rw [if_pos (by simp; intro h; exact e (by rw [h]; rfl))]
   exact ev_const fun k => by
    unfold bracket_Bracket.f
    rw [z, if_pos (by simp only [List.length_cons]; omega), tl, if_neg (by simp), hb, if_pos e]
theorem brV_plain {t : List UInt8} (flags : Int) (h : t.head? ≠ some 94) {q : List S36 × Int × Int} (hq : brL (t.length + 1 + 1) t true 1 [] = q) : brV (91 :: t) flags = if q.2.2 ≠ 0 then q else ((madeL false (foldB flags) (q.1.map ofRg)).map toRg, q.2.1 + 1, 0) := by
 unfold brV
 rw [if_neg (by simp)]
 have hd : decide (((91 :: t).drop 1).head? = some 94) = false := decide_eq_false h
 rw [hd]
 have e : brL ((91 :: t).length + 1) ((91 :: t).drop (if false = true then 2 else 1)) true ((if false = true then 2 else 1 : Nat) : Int) [] = q := hq
 simp only [e]
theorem brV_lacks {t : List UInt8} (flags : Int) {q : List S36 × Int × Int} (hq : brL (t.length + 1 + 1 + 1) t true 2 [] = q) : brV (91 :: 94 :: t) flags = if q.2.2 ≠ 0 then q else ((madeL true (foldB flags) (q.1.map ofRg)).map toRg, q.2.1 + 1, 0) := by
 unfold brV
 rw [if_neg (by simp)]
 have hd : decide (((91 :: 94 :: t).drop 1).head? = some (94 : UInt8)) = true := decide_eq_true rfl
 rw [hd]
 subst hq
 rfl
theorem madeL_len (neg fold : Bool) (l : List (Int × Int)) : (madeL neg fold l).length ≤ l.length + 501 := by
 unfold madeL
 have h1 := close_len l
 have key : ∀ A : List (Int × Int), (normL A).length ≤ A.length := normL_len
 have h2 : (if fold then closeL l else l).length ≤ l.length + 500 := by split <;> omega
 generalize (if fold then closeL l else l) = A at h2
 have h3 := notL_len A
 have h4 := key (if neg then notL A else A)
 have h5 : (if neg then notL A else A).length ≤ A.length + 1 := by split <;> omega
 omega
theorem brV_len (s : List UInt8) (flags : Int) (hs : s.length ≤ 249) : (brV s flags).1.length ≤ 200000 := by
 have hb : ∀ (f F : Nat) (l : List UInt8), F ≤ 2 → l.length ≤ 249 → (brL f l true F []).1.length ≤ 110000 := by
  intro f F l hF hl
  have := brL_len f l true F [] (by simp; omega) (by omega)
  omega
 have hm : ∀ (neg : Bool) (q : List S36 × Int × Int), q.1.length ≤ 110000 → (if q.2.2 ≠ 0 then q else ((madeL neg (foldB flags) (q.1.map ofRg)).map toRg, q.2.1 + 1, 0)).1.length ≤ 200000 := by
  intro neg q hq
  split
  ·omega
  ·have := madeL_len neg (foldB flags) (q.1.map ofRg)
   rw [List.length_map] at this ⊢
   omega
 match s, hs with
 | [], _ => simp [brV]
 | c :: t, hs =>
  simp only [List.length_cons] at hs
  by_cases hc : c = 91
  ·subst hc
   by_cases ht : t.head? = some 94
   ·obtain ⟨w, rfl⟩ : ∃ w, t = 94 :: w := by
     cases t with
     | nil => cases ht
     | cons d w => exact ⟨w, by rw [show d = 94 by simpa using ht]⟩
    simp only [List.length_cons] at hs
    rw [brV_lacks flags rfl]
    exact hm true _ (hb _ 2 w (by omega) (by omega))
   ·rw [brV_plain flags ht rfl]
    exact hm false _ (hb _ 1 t (by omega) (by omega))
  ·have hb : brV (c :: t) flags = ([], 0, 3) := by unfold brV; rw [if_pos (by simpa using hc)]
   rw [hb]
   simp
theorem joined_at (l : List Int) (x : Int) (hn : l.length ≤ 4611686018427387904) (d : Nat) : ∀ (k i : Nat), i ≤ l.length → l.length - i = d → d < k → burinref03_joined.l0 k l x i = some (decide (x ∈ l.drop i)) := by
 induction d with
 | zero =>
  intro k i hi hd hk
  obtain ⟨k, rfl⟩ : ∃ m, k = m + 1 := ⟨k - 1, by omega⟩
  have e : i = l.length := by omega
  subst e
  simp only [burinref03_joined.l0]
  rw [if_neg (by omega)]
  simp
 | succ d ih =>
  intro k i hi hd hk
  obtain ⟨k, rfl⟩ : ∃ m, k = m + 1 := ⟨k - 1, by omega⟩
  have h1 : i < l.length := by omega
  have ea : rd l (i : Int) = l[i] := by simp [rd, h1]
  have ed : (x ∈ l.drop i) ↔ (x = l[i] ∨ x ∈ l.drop (i + 1)) := by
   conv => lhs; rw [List.drop_eq_getElem_cons h1, List.mem_cons]
  simp only [burinref03_joined.l0]
  rw [if_pos (by omega), if_pos (by omega), ea]
  by_cases h : l[i] = x
  ·rw [if_pos h, decide_eq_true (ed.2 (.inl h.symm))]
  ·rw [if_neg h, wrap_in (x := (i : Int) + 1) (by omega) (by omega), show (i : Int) + 1 = ((i + 1 : Nat) : Int) by omega, ih k (i + 1) (by omega) (by omega) (by omega)]
   by_cases h' : x ∈ l.drop (i + 1)
   ·rw [decide_eq_true h', decide_eq_true (ed.2 (.inr h'))]
   ·rw [decide_eq_false h', decide_eq_false (fun z => (ed.1 z).elim (fun y => h y.symm) h')]
theorem joined_f (l : List Int) (x : Int) (hn : l.length ≤ 4611686018427387904) (k : Nat) (hk : l.length < k) : burinref03_joined.f k l x = some (decide (x ∈ l)) := by
 have := joined_at l x hn l.length k 0 (Nat.zero_le _) (by omega) (by omega)
 unfold burinref03_joined.f
 simpa using this
/-- A number put into a rising list, at its place. -/
def put (x : Int) : List Int → List Int
 | [] => [x]
 | y :: t => if y < x then y :: put x t else x :: y :: t
theorem put_cons (x y : Int) (t : List Int) : put x (y :: t) = if y < x then y :: put x t else x :: y :: t := rfl
def withL (l : List Int) (x : Int) : List Int := if x ∈ l then l else put x l
theorem put_len (x : Int) : ∀ l, (put x l).length = l.length + 1
 | [] => rfl
 | y :: t => by
  unfold put
  split
  ·simp [put_len x t]
  ·simp
theorem with_at (l : List Int) (x : Int) (hn : l.length ≤ 1000000) (d : Nat) : ∀ (k i : Nat), i ≤ l.length → l.length - i = d → d < k → burinref03_with.l0 k l x (l.take i) i = some (l.take i ++ put x (l.drop i)) := by
 induction d with
 | zero =>
  intro k i hi hd hk
  obtain ⟨k, rfl⟩ : ∃ m, k = m + 1 := ⟨k - 1, by omega⟩
  have e : i = l.length := by omega
  subst e
  simp only [burinref03_with.l0]
  rw [if_neg (by omega), if_pos (by rw [List.length_take]; omega)]
  simp only [Option.bind_some]
  rw [if_pos (by omega), if_pos (by omega), Int.toNat_natCast, if_pos (by simp; omega)]
  simp [put]
 | succ d ih =>
  intro k i hi hd hk
  obtain ⟨k, rfl⟩ : ∃ m, k = m + 1 := ⟨k - 1, by omega⟩
  have h1 : i < l.length := by omega
  have ea : rd l (i : Int) = l[i] := by simp [rd, h1]
  have ed : put x (l.drop i) = if l[i] < x then l[i] :: put x (l.drop (i + 1)) else x :: l.drop i := by
   conv => lhs; rw [List.drop_eq_getElem_cons h1, put_cons]
   rw [← List.drop_eq_getElem_cons h1]
  simp only [burinref03_with.l0]
  rw [if_pos (by omega), if_pos (by omega), ea, ed]
  by_cases h : l[i] < x
  ·rw [if_pos h, if_pos h, if_pos (by rw [List.length_take]; omega), wrap_in (x := (i : Int) + 1) (by omega) (by omega), show (i : Int) + 1 = ((i + 1 : Nat) : Int) by omega]
   have et : l.take i ++ [l[i]] = l.take (i + 1) := by simp
   rw [et, ih k (i + 1) (by omega) (by omega) (by omega), ← et, List.append_assoc]
   rfl
  ·rw [if_neg h, if_neg h, if_pos (by rw [List.length_take]; omega)]
   simp only [Option.bind_some]
   rw [if_pos (by omega), Int.toNat_natCast, if_pos (by simp; omega)]
   simp
theorem with_f (l : List Int) (x : Int) (hn : l.length ≤ 1000000) (k : Nat) (hk : l.length < k) : burinref03_with.f k l x = some (withL l x) := by
 unfold burinref03_with.f withL
 rw [joined_f l x (by omega) k hk]
 simp only [Option.bind_some]
 by_cases h : x ∈ l
 ·rw [if_pos (by simpa using h), if_pos h]
 ·rw [if_neg (by simpa using h), if_neg h]
  have := with_at l x hn l.length k 0 (Nat.zero_le _) (by omega) (by omega)
  simpa using this
theorem withL_len (l : List Int) (x : Int) : (withL l x).length ≤ l.length + 1 := by
 unfold withL
 split
 ·omega
 ·rw [put_len]; omega
def stepP (l : List Int) (p : S95) : List Int :=
 let l1 := if p.f0 ∈ l then withL l p.f1 else l
 if p.f1 ∈ l1 then withL l1 p.f0 else l1
theorem stepP_len (l : List Int) (p : S95) : (stepP l p).length ≤ l.length + 2 := by
 have h : ∀ (l : List Int) (a b : Int), (if a ∈ l then withL l b else l).length ≤ l.length + 1 := fun l a b => by
  split
  ·exact withL_len l b
  ·omega
 unfold stepP
 have h1 := h l p.f0 p.f1
 have h2 := h (if p.f0 ∈ l then withL l p.f1 else l) p.f1 p.f0
 exact Nat.le_trans h2 (by omega)
/-- One pass over all pairs. -/
theorem pass_at (ps : List S95) (hp : ps.length ≤ 1000) (n : Int) (r : List Int) (d : Nat) : ∀ (i : Nat) (l : List Int), i ≤ ps.length → ps.length - i = d → l.length + 2 * d ≤ 10000 →
  Ev (fun k => burinref03_Family.l0 k ((ps.drop i).foldl stepP l) ps n) r → Ev (fun k => burinref03_Family.l1 k l ps n i) r := by
 induction d with
 | zero =>
  intro i l hi hd hl h
  have e : i = ps.length := by omega
  subst e
  refine Ev.step (fun k => ?_) h
  simp only [burinref03_Family.l1]
  rw [if_neg (by omega)]
  simp
 | succ d ih =>
  intro i l hi hd hl h
  have h1 : i < ps.length := by omega
  have ea : rd_T95 ps (i : Int) = ps[i] := by simp [rd_T95, h1]
  rw [List.drop_eq_getElem_cons h1, List.foldl_cons] at h
  have hs := stepP_len l ps[i]
  obtain ⟨K, hK⟩ := ih (i + 1) (stepP l ps[i]) (by omega) (by omega) (by omega) h
  refine ⟨K + 20003, fun k hk => ?_⟩
  obtain ⟨k, rfl⟩ : ∃ m, k = m + 2 := ⟨k - 2, by omega⟩
  have hl1 : ∀ (l1 : List Int), l1 = (if ps[i].f0 ∈ l then withL l ps[i].f1 else l) → burinref03_Family.j2 (k + 1) l1 ps n i = some r := by
   intro l1 e1
   have hlen : l1.length ≤ l.length + 1 := by
    rw [e1]
    split
    ·exact withL_len _ _
    ·omega
   have hgo := hK k (by omega)
   have es : stepP l ps[i] = if ps[i].f1 ∈ l1 then withL l1 ps[i].f0 else l1 := by rw [e1]; rfl
   simp only [burinref03_Family.j2]
   rw [if_pos (by omega), if_pos (by omega), ea, joined_f l1 _ (by omega) k (by omega)]
   simp only [Option.bind_some]
   rw [wrap_in (x := (i : Int) + 1) (by omega) (by omega), show (i : Int) + 1 = ((i + 1 : Nat) : Int) by omega]
   by_cases hb : ps[i].f1 ∈ l1
   ·rw [if_pos (by simpa using hb), with_f l1 _ (by omega) k (by omega)]
    simp only [Option.bind_some]
    rw [if_pos hb] at es
    rw [← es]
    exact hgo
   ·rw [if_neg (by simpa using hb)]
    rw [if_neg hb] at es
    rw [← es]
    exact hgo
  simp only [burinref03_Family.l1]
  rw [if_pos (by omega), if_pos (by omega), ea, joined_f l _ (by omega) (k + 1) (by omega)]
  simp only [Option.bind_some]
  by_cases ha : ps[i].f0 ∈ l
  ·rw [if_pos (by simpa using ha), with_f l _ (by omega) (k + 1) (by omega)]
   simp only [Option.bind_some]
   exact hl1 _ (by rw [if_pos ha])
  ·rw [if_neg (by simpa using ha)]
   exact hl1 _ (by rw [if_neg ha])
theorem go_on (ps : List S95) (hp : ps.length ≤ 1000) (l r : List Int) (n : Int) (hn : n < l.length) (hl : l.length ≤ 1000) (h : Ev (fun k => burinref03_Family.l0 k (ps.foldl stepP l) ps (l.length : Int)) r) : Ev (fun k => burinref03_Family.l0 k l ps n) r := by
 refine Ev.step (fun k => ?_) (pass_at ps hp (l.length : Int) r ps.length 0 l (Nat.zero_le _) (by omega) (by omega) (by simpa using h))
 simp only [burinref03_Family.l0]
 rw [if_pos hn]
 rfl
theorem stop (ps : List S95) (l : List Int) (n : Int) (hn : ¬ n < l.length) : Ev (fun k => burinref03_Family.l0 k l ps n) l := by
 refine Ev.step (fun k => ?_) (Ev.now l)
 simp only [burinref03_Family.l0]
 rw [if_neg hn]
def spanL (lo hi up : Int) : List S95 := (List.range (hi - lo + 1).toNat).map fun (i : Nat) => ⟨lo + (i : Int), lo + (i : Int) + up⟩
def pairsL : List S95 := spanL 65 90 32 ++ spanL 192 214 32 ++ spanL 216 222 32 ++ spanL 913 929 32 ++ spanL 931 939 32 ++ spanL 1040 1071 32 ++ spanL 1024 1039 80 ++ [⟨376, 255⟩, ⟨924, 181⟩, ⟨931, 962⟩, ⟨75, 8490⟩, ⟨197, 8491⟩, ⟨83, 383⟩, ⟨937, 8486⟩]
theorem pairs_f : burinref03_Pairs.f 40 = some pairsL := by kernel_rfl
/-- Passes, till nothing more comes; at most five. -/
def fam5 (r : Int) : Bool :=
 let l1 := pairsL.foldl stepP [r]
 let l2 := pairsL.foldl stepP l1
 let l3 := pairsL.foldl stepP l2
 (decide (l1.length ≤ 100) && decide (l2.length ≤ 100)) &&
 ((decide (l1.length ≤ 1) && decide (l1 = isort (fam0 (capF r)))) || (decide (1 < l1.length) && ((decide (l2.length ≤ l1.length) && decide (l2 = isort (fam0 (capF r)))) || (decide (l1.length < l2.length) && decide (l3.length ≤ l2.length) && decide (l3 = isort (fam0 (capF r)))))))
theorem fam5_ok (r : Int) (h : fam5 r = true) : Ev (fun k => burinref03_Family.l0 k [r] pairsL 0) (famF r) := by
 have hp : pairsL.length ≤ 1000 := by decide +kernel
 have hf : famF r = isort (fam0 (capF r)) := by unfold famF; rw [merge_isort]
 rw [hf]
 unfold fam5 at h
 generalize isort (fam0 (capF r)) = F at h ⊢
 simp only [Bool.and_eq_true, Bool.or_eq_true, decide_eq_true_eq] at h
 obtain ⟨⟨h1, h2⟩, h⟩ := h
 refine go_on pairsL hp [r] F 0 (by simp) (by simp) ?_
 generalize pairsL.foldl stepP [r] = l1 at h1 h2 h ⊢
 rcases h with ⟨ha, hb⟩ | ⟨ha, h⟩
 ·rw [← hb]
  exact stop pairsL l1 _ (by simp; omega)
 ·refine go_on pairsL hp l1 F _ (by simp; omega) (by omega) ?_
  generalize pairsL.foldl stepP l1 = l2 at h2 h ⊢
  rcases h with ⟨hb, hc⟩ | ⟨⟨hb, hc⟩, hd⟩
  ·rw [← hc]
   exact stop pairsL l2 _ (by omega)
  ·refine go_on pairsL hp l2 F _ (by omega) (by omega) ?_
   generalize pairsL.foldl stepP l2 = l3 at hc hd ⊢
   rw [← hd]
   exact stop pairsL l3 _ (by omega)
theorem fam5_blocks : (blocksL.all fun b => (List.range (b.2.1 - b.1 + 1).toNat).all fun (i : Nat) => fam5 (b.1 + (i : Int)) && fam5 (b.1 + b.2.2 + (i : Int))) = true := by decide +kernel
theorem fam5_others : (othersL.all fun o => fam5 o.1 && fam5 o.2) = true := by decide +kernel
theorem pairs_in : (pairsL.all fun p => (inBlocks p.f0 || inOthers p.f0) && (inBlocks p.f1 || inOthers p.f1)) = true := by decide +kernel
theorem pass_out (r : Int) : ∀ (ps : List S95), (∀ p ∈ ps, ¬ p.f0 = r ∧ ¬ p.f1 = r) → ps.foldl stepP [r] = [r]
 | [], _ => rfl
 | p :: ps, h => by
  have hp := h p (by simp)
  have hs : stepP [r] p = [r] := by
   simp only [stepP, List.mem_singleton, hp.1, hp.2, if_false]
  rw [List.foldl_cons, hs]
  exact pass_out r ps (fun q hq => h q (by simp [hq]))
/-- The reference's family is the program's. -/
theorem fam_loops (r : Int) : Ev (fun k => burinref03_Family.l0 k [r] pairsL 0) (famF r) := by
 by_cases h : inBlocks r = true ∨ inOthers r = true
 ·refine fam5_ok r ?_
  rcases h with h | h
  ·unfold inBlocks at h
   rw [List.any_eq_true] at h
   obtain ⟨b, hb, h⟩ := h
   have h2 := fam5_blocks
   rw [List.all_eq_true] at h2
   have h3 := h2 b hb
   rw [List.all_eq_true] at h3
   simp only [Bool.or_eq_true, Bool.and_eq_true, decide_eq_true_eq] at h
   rcases h with h | h
   ·have h4 := h3 (r - b.1).toNat (by rw [List.mem_range]; omega)
    rw [Bool.and_eq_true, show b.1 + ((r - b.1).toNat : Int) = r from by omega] at h4
    exact h4.1
   ·have h4 := h3 (r - b.1 - b.2.2).toNat (by rw [List.mem_range]; omega)
    rw [Bool.and_eq_true, show b.1 + b.2.2 + ((r - b.1 - b.2.2).toNat : Int) = r from by omega] at h4
    exact h4.2
  ·unfold inOthers at h
   rw [List.any_eq_true] at h
   obtain ⟨o, ho, h⟩ := h
   have h2 := fam5_others
   rw [List.all_eq_true] at h2
   have h3 := h2 o ho
   simp only [Bool.or_eq_true, Bool.and_eq_true, decide_eq_true_eq] at h h3
   rcases h with rfl | rfl
   ·exact h3.1
   ·exact h3.2
 ·have hfam : famF r = [r] := by
   rcases (fam_facts r).2.2.2 with h1 | h1 | h1
   ·exact absurd (.inl h1) h
   ·exact absurd (.inr h1) h
   ·exact h1
  have hout : pairsL.foldl stepP [r] = [r] := by
   refine pass_out r pairsL (fun p hp => ?_)
   have h2 := pairs_in
   rw [List.all_eq_true] at h2
   have h3 := h2 p hp
   simp only [Bool.or_eq_true, Bool.and_eq_true] at h3
   exact ⟨fun e => h (by rw [← e]; exact h3.1), fun e => h (by rw [← e]; exact h3.2)⟩
  rw [hfam]
  refine go_on pairsL (by decide +kernel) [r] [r] 0 (by simp) (by simp) ?_
  rw [hout]
  exact stop pairsL [r] _ (by simp)
theorem ref_fam (r : Int) : Ev (fun k => burinref03_Family.f k r) (famF r) := by
 unfold burinref03_Family.f
 exact Ev.bind (Ev.of (fun k => burinref03_Pairs.mono k) pairs_f) (fam_loops r)
theorem close_l2 (l : List (Int × Int)) (ps : List S95) (i : Nat) (hi : i < 1000) (fam : List Int) (hf : fam.length ≤ 100) (m : List S36) (d : Nat) : ∀ (j : Nat) (more : List (Int × Int)), j ≤ fam.length → fam.length - j = d → more.length + d ≤ 100000 →
  Ev (fun k => burinref03_Close.l0 k (l.map toRg) ((more ++ (fam.drop j).map (fun r => (r, r))).map toRg) ps ((i + 1 : Nat) : Int)) m →
  Ev (fun k => burinref03_Close.l2 k (l.map toRg) (more.map toRg) ps (i : Int) fam true (j : Int)) m := by
 induction d with
 | zero =>
  intro j more hj hd hm h
  have e : j = fam.length := by omega
  subst e
  rw [List.drop_of_length_le (Nat.le_refl _), List.map_nil, List.append_nil] at h
  refine Ev.step (fun k => ?_) h
  simp only [burinref03_Close.l2]
  rw [if_neg (by omega), wrap_rg (x := (i : Int) + 1) (by omega) (by omega), show (i : Int) + 1 = ((i + 1 : Nat) : Int) by omega]
 | succ d ih =>
  intro j more hj hd hm h
  have hlt : j < fam.length := by omega
  have hrd : rd fam (j : Int) = fam[j] := by simp [rd, hlt]
  rw [List.drop_eq_getElem_cons hlt, List.map_cons, show more ++ (fam[j], fam[j]) :: (fam.drop (j + 1)).map (fun r => (r, r)) = (more ++ [(fam[j], fam[j])]) ++ (fam.drop (j + 1)).map (fun r => (r, r)) by simp] at h
  refine Ev.step (fun k => ?_) (ih (j + 1) (more ++ [(fam[j], fam[j])]) (by omega) (by omega) (by simp; omega) h)
  simp only [burinref03_Close.l2]
  rw [if_pos (by omega), if_pos trivial, if_pos (by omega), if_pos (by simp; omega), hrd, wrap_rg (x := (j : Int) + 1) (by omega) (by omega), show (j : Int) + 1 = ((j + 1 : Nat) : Int) by omega]
  simp [toRg]
theorem close_l2f (l : List (Int × Int)) (ps : List S95) (i : Nat) (hi : i < 1000) (fam : List Int) (m : List S36) (more : List S36) (j : Int)
  (h : Ev (fun k => burinref03_Close.l0 k (l.map toRg) more ps ((i + 1 : Nat) : Int)) m) :
  Ev (fun k => burinref03_Close.l2 k (l.map toRg) more ps (i : Int) fam false j) m := by
 refine Ev.step (fun k => ?_) h
 simp only [burinref03_Close.l2]
 rw [wrap_rg (x := (i : Int) + 1) (by omega) (by omega), show (i : Int) + 1 = ((i + 1 : Nat) : Int) by omega]
 split
 ·rw [if_neg (by simp)]
 ·rfl
theorem close_l1 (l : List (Int × Int)) (hl : l.length ≤ 900000) (ps : List S95) (i : Int) (fam : List Int) (hf : fam.length ≤ 100) (m more : List S36) (d : Nat) : ∀ (j : Nat) (q : Bool), j ≤ fam.length → fam.length - j = d →
  Ev (fun k => burinref03_Close.l2 k (l.map toRg) more ps i fam (q || (fam.drop j).any (hasL l)) 0) m →
  Ev (fun k => burinref03_Close.l1 k (l.map toRg) more ps i fam q (j : Int)) m := by
 induction d with
 | zero =>
  intro j q hj hd h
  have e : j = fam.length := by omega
  subst e
  rw [List.drop_of_length_le (Nat.le_refl _), List.any_nil, Bool.or_false] at h
  refine Ev.step (fun k => ?_) h
  simp only [burinref03_Close.l1]
  rw [if_neg (by omega)]
 | succ d ih =>
  intro j q hj hd h
  have hlt : j < fam.length := by omega
  have hrd : rd fam (j : Int) = fam[j] := by simp [rd, hlt]
  rw [List.drop_eq_getElem_cons hlt, List.any_cons] at h
  cases q with
  | true =>
   refine Ev.step (fun k => ?_) (ih (j + 1) true (by omega) (by omega) (by simpa using h))
   simp only [burinref03_Close.l1]
   rw [if_pos (by omega), if_pos trivial, wrap_rg (x := (j : Int) + 1) (by omega) (by omega), show (j : Int) + 1 = ((j + 1 : Nat) : Int) by omega]
  | false =>
   rw [Bool.false_or] at h
   have h2 := ih (j + 1) (hasL l fam[j]) (by omega) (by omega) h
   refine Ev.step (f := fun k => (burinref02_Has.f k (l.map toRg) fam[j]).bind fun t => burinref03_Close.l1 k (l.map toRg) more ps i fam t ((j + 1 : Nat) : Int)) (fun k => ?_) (Ev.bind (rhas_ev l fam[j] hl) h2)
   simp only [burinref03_Close.l1]
   rw [if_pos (by omega), if_neg (by simp), if_pos (by omega), hrd, wrap_rg (x := (j : Int) + 1) (by omega) (by omega), show (j : Int) + 1 = ((j + 1 : Nat) : Int) by omega]
theorem close_made (l T : List (Int × Int)) (hl : l.length ≤ 900000) (hT : T.length ≤ 900000) (he : T = capsAll.flatMap (addF l)) : Ev (fun k => burinref02_Make.f k 1 ((normL l).map toRg) ((normL T).map toRg)) ((closeL l).map toRg) := by
 have n1 := normL_len l
 have n2 := normL_len T
 refine make_ev 1 (.inl rfl) (normL l) (normL T) (by omega) (by omega) (closeL l) (closeL_nrm l) fun r => ?_
 rw [hasL_nrm (normL_nrm l), hasL_nrm (normL_nrm T), normL_in, normL_in]
 have e : inL (closeL l) r = hasL (l ++ T) r := by rw [he]; exact normL_in _ r
 rw [e]
 unfold hasL madeBy
 rw [inL_append]
 cases decide (0 ≤ r) <;> cases decide (r ≤ 1114111) <;> cases inL l r <;> cases inL T r <;> rfl
theorem close_l0 (l : List (Int × Int)) (hl : l.length ≤ 100000) (ps : List S95) (hp : ps.length < 1000) (T : List (Int × Int)) (hT : T.length ≤ 100000) (he : T = capsAll.flatMap (addF l)) (d : Nat) : ∀ (i : Nat) (more : List (Int × Int)), i ≤ ps.length → ps.length - i = d → more ++ ((ps.drop i).map (fun p => p.f0)).flatMap (addF l) = T →
  Ev (fun k => burinref03_Close.l0 k (l.map toRg) (more.map toRg) ps (i : Int)) ((closeL l).map toRg) := by
 induction d with
 | zero =>
  intro i more hi hd hm
  have e : i = ps.length := by omega
  subst e
  rw [List.drop_of_length_le (Nat.le_refl _), List.map_nil, List.flatMap_nil, List.append_nil] at hm
  subst hm
  have n1 := normL_len more
  refine Ev.step (f := fun k => (burinref02_Norm.f k (l.map toRg)).bind fun t259 => ((burinref02_Norm.f k (more.map toRg)).bind fun t262 => ((burinref02_Make.f k 1 t259 t262).bind fun t265 => (some t265)))) (fun k => ?_) ?_
  ·simp only [burinref03_Close.l0]
   rw [if_neg (by omega)]
  ·refine Ev.bind (rnorm_ev l (by omega)) (Ev.bind (rnorm_ev more (by omega)) ?_)
   exact Ev.bind (close_made l more (by omega) (by omega) he) (Ev.now _)
 | succ d ih =>
  intro i more hi hd hm
  have hlt : i < ps.length := by omega
  have hrd : rd_T95 ps (i : Int) = ps[i] := by simp [rd_T95, hlt]
  rw [List.drop_eq_getElem_cons hlt, List.map_cons, List.flatMap_cons, ← List.append_assoc] at hm
  have h0 := ih (i + 1) (more ++ addF l ps[i].f0) (by omega) (by omega) hm
  have hfl := (fam_facts ps[i].f0).1.1
  have hml : more.length + (famF ps[i].f0).length ≤ 100000 ∨ (famF ps[i].f0).any (hasL l) ≠ true := by
   by_cases h : (famF ps[i].f0).any (hasL l) = true
   ·left
    have := congrArg List.length hm
    rw [List.length_append, List.length_append] at this
    have e : (addF l ps[i].f0).length = (famF ps[i].f0).length := by unfold addF; rw [if_pos h, List.length_map]
    omega
   ·exact .inr h
  have hr := ref_fam ps[i].f0
  have e : addF l ps[i].f0 = if (famF ps[i].f0).any (hasL l) = true then (famF ps[i].f0).map (fun r => (r, r)) else [] := rfl
  rw [e] at h0
  generalize famF ps[i].f0 = fam at hfl hml hr h0
  have h1 : Ev (fun k => burinref03_Close.l2 k (l.map toRg) (more.map toRg) ps (i : Int) fam (fam.any (hasL l)) ((0 : Nat) : Int)) ((closeL l).map toRg) := by
   by_cases h : fam.any (hasL l) = true
   ·rw [h]
    rw [if_pos h] at h0
    exact close_l2 l ps i (by omega) fam (by omega) _ _ 0 more (Nat.zero_le _) rfl (hml.elim (fun x => by omega) (fun x => absurd h x)) h0
   ·rw [if_neg h, List.append_nil] at h0
    rw [Bool.not_eq_true] at h
    rw [h]
    exact close_l2f l ps i (by omega) fam _ _ _ h0
  have h2 := close_l1 l (by omega) ps (i : Int) fam (by omega) _ (more.map toRg) _ 0 false (Nat.zero_le _) rfl (by rw [List.drop_zero, Bool.false_or]; exact h1)
  refine Ev.step (f := fun k => (burinref03_Family.f k ps[i].f0).bind fun t => burinref03_Close.l1 k (l.map toRg) (more.map toRg) ps (i : Int) t false ((0 : Nat) : Int)) (fun k => ?_) (Ev.bind hr h2)
  simp only [burinref03_Close.l0]
  rw [if_pos (by omega), if_pos (by omega), hrd]
  rfl
theorem pairs_caps : pairsL.map (fun p => p.f0) = capsAll := by decide +kernel
theorem rclose_ev (l : List (Int × Int)) (hl : l.length ≤ 100000) : Ev (fun k => burinref03_Close.f k (l.map toRg)) ((closeL l).map toRg) := by
 unfold burinref03_Close.f
 have hlen : ∀ c : List Int, (c.flatMap (addF l)).length ≤ 15 * c.length := by
  intro c
  induction c with
  | nil => simp
  | cons x t ih =>
   have := addF_small l x
   rw [List.flatMap_cons, List.length_append, List.length_cons]
   omega
 have h1 := hlen capsAll
 have h2 : capsAll.length ≤ 140 := by decide +kernel
 have h3 := close_l0 l hl pairsL (by decide +kernel) (capsAll.flatMap (addF l)) (by omega) rfl _ 0 [] (Nat.zero_le _) rfl (by rw [List.drop_zero, pairs_caps, List.nil_append])
 exact Ev.bind (Ev.of (fun k => burinref03_Pairs.mono k) pairs_f) h3
theorem rcol_ev (s : List UInt8) : Ev (fun k => burinref04_Colon.f k ⟨⟨s⟩⟩) ((turnV colTab s).1.map toRg, (turnV colTab s).2) := by
 obtain ⟨l, hl, tl, vl⟩ := colons_at
 have hp : l = colTab := Option.some.inj (hl.symm.trans col_tab.1)
 subst hp
 obtain ⟨L, e, bL, h1, h2⟩ := both_ev tl vl (by decide) ⟨⟨s⟩⟩
 have he := ev_uniq h1 (turn_ev tl s)
 rw [he] at h2
 refine Ev.congr (fun k => ?_) h2
 unfold burinref04_Colon.f refC
 simp only [colon_tab]
theorem rone_ev (s : List UInt8) (hs : s.length ≤ 1000000) : Ev (fun k => burinref07_one.f k ⟨⟨s⟩⟩) (oneV s) := by
 cases s with
 | nil => exact ev_const fun k => by unfold burinref07_one.f; rw [tl, if_pos rfl]; rfl
 | cons c t =>
  have z := sz (c :: t)
  have hb : bt ⟨⟨c :: t⟩⟩ 0 = (c.toNat : Int) := (bt_drop (l := c :: t) (i := 0) rfl).1
  have h0 : ∀ k, burinref07_one.f k ⟨⟨c :: t⟩⟩ = if (c.toNat : Int) = 92 then (burinref07_Number.f k ⟨⟨c :: t⟩⟩).bind fun bt => some (bt.1, bt.2.1, bt.2.2) else (burinref01_Decode.f k ⟨⟨c :: t⟩⟩).bind fun bt => if bt.1 < 0 then some (0, 0, 3) else some (bt.1, bt.2, 0) := fun k => by
   unfold burinref07_one.f
   rw [tl, if_neg (by simp), z, if_pos (by simp only [List.length_cons]; omega), hb]
  refine Ev.congr h0 ?_
  simp only [oneV]
  by_cases e : (c.toNat : Int) = 92
  ·simp only [if_pos e]
   exact Ev.bind (rnum_ev (c :: t) hs) (Ev.now _)
  ·simp only [if_neg e]
   refine Ev.bind (rdec_ev ⟨⟨c :: t⟩⟩) (ev_const fun k => ?_)
   split <;> rfl
theorem index_two (a b : UInt8) (t : List UInt8) : Lib.index (a :: b :: t) [58, 93] = if a = 58 ∧ b = 93 then 0 else if Lib.index (b :: t) [58, 93] = -1 then -1 else Lib.index (b :: t) [58, 93] + 1 := by
 rw [Lib.index]
 by_cases h : a = 58 ∧ b = 93
 ·obtain ⟨rfl, rfl⟩ := h
  rfl
 ·rw [if_neg h, if_neg (by simp only [List.isPrefixOf, Bool.and_true, Bool.and_eq_true, beq_iff_eq]; exact fun hh => h ⟨hh.1.symm, hh.2.symm⟩)]
  by_cases g : Lib.index (b :: t) [58, 93] = -1
  ·rw [if_pos g, if_pos (by rw [g]; rfl)]
  ·rw [if_neg g, if_neg (by rw [beq_iff_eq]; exact g)]
theorem index_short (a : UInt8) : Lib.index [a] [58, 93] = -1 := by
 rw [Lib.index, if_neg (by simp [List.isPrefixOf])]
 rfl
def colOut (at_ : Int) (l : List UInt8) (e : Int) : List S36 × Int × Int := if (turnV colTab ((l.drop 2).take e.toNat)).2 = 0 then ((turnV colTab ((l.drop 2).take e.toNat)).1.map toRg, at_ + e + 4, 0) else ([], at_, 70)
def colRes (at_ : Int) (l : List UInt8) (i : Int) (v : List UInt8) : List S36 × Int × Int := if 0 ≤ Lib.index v [58, 93] then colOut at_ l (i - 2 + Lib.index v [58, 93]) else ([], at_, 82)
theorem rcol_l0 (at_ : Nat) (l : List UInt8) (ha : at_ ≤ 1000000) (hl : l.length ≤ 1000000) : ∀ (v : List UInt8) (i : Nat), l.drop i = v → 2 ≤ i → i ≤ l.length → Ev (fun k => burinref07_item.l0 k at_ ⟨⟨l⟩⟩ i) (colRes at_ l i v)
 | [], i, h, h2, hi => by
  have : l.length ≤ i := List.drop_eq_nil_iff.1 h
  refine Ev.step (f := fun _ => some (([] : List S36), (at_ : Int), 82)) (fun k => ?_) (Ev.now _)
  rw [burinref07_item.l0, sz, wr (x := (i : Int) + 1) (y := ((i + 1 : Nat) : Int)) (by omega) (by omega) (by omega), if_neg (by omega)]
 | [a], i, h, h2, hi => by
  have hlen := congrArg List.length h
  rw [List.length_drop] at hlen
  simp only [List.length_cons, List.length_nil] at hlen
  unfold colRes
  rw [index_short, if_neg (by omega)]
  refine Ev.step (f := fun _ => some (([] : List S36), (at_ : Int), 82)) (fun k => ?_) (Ev.now _)
  rw [burinref07_item.l0, sz, wr (x := (i : Int) + 1) (y := ((i + 1 : Nat) : Int)) (by omega) (by omega) (by omega), if_neg (by omega)]
 | a :: b :: t, i, h, h2, hi => by
  obtain ⟨hb, hi1, ht⟩ := bt_drop h
  obtain ⟨hb1, hi2, _⟩ := bt_drop ht
  have w1 : wrap64 ((i : Int) + 1) = ((i + 1 : Nat) : Int) := wr (by omega) (by omega) (by omega)
  have h0 : ∀ k, burinref07_item.l0 (k + 1) at_ ⟨⟨l⟩⟩ i = burinref07_item.j2 k at_ ⟨⟨l⟩⟩ i (decide (a = 58 ∧ b = 93)) := fun k => by
   rw [burinref07_item.l0, sz, w1, if_pos (by omega), if_pos (by omega), if_pos (by omega), hb, hb1]
   by_cases e : (a.toNat : Int) = 58
   ·have ea : a = 58 := u8_eq (n := 58) e (by omega)
    rw [if_pos e, if_pos (by omega)]
    congr 1
    rw [Bool.eq_iff_iff, beq_iff_eq, decide_eq_true_eq]
    exact ⟨fun hh => ⟨ea, u8_eq (n := 93) hh (by omega)⟩, fun hh => by rw [hh.2]; rfl⟩
   ·rw [if_neg e, decide_eq_false (fun hh => e (by rw [hh.1]; rfl))]
  refine Ev.step h0 ?_
  by_cases g : a = 58 ∧ b = 93
  ·rw [decide_eq_true g]
   unfold colRes
   rw [index_two, if_pos g, if_pos (by omega), show (i : Int) - 2 + 0 = ((i - 2 : Nat) : Int) by omega]
   unfold colOut
   rw [Int.toNat_natCast]
   refine Ev.step (f := fun k => (burinref04_Colon.f k ⟨⟨(l.drop 2).take (i - 2)⟩⟩).bind fun q => if q.2 = 0 then some (q.1, (at_ : Int) + ((i - 2 : Nat) : Int) + 4, 0) else some ([], (at_ : Int), 70)) (fun k => ?_) (Ev.bind (rcol_ev _) (ev_const fun k => ?_))
   ·rw [burinref07_item.j2, if_pos rfl, if_pos (by omega), sz, if_pos (by omega), Int.toNat_natCast, ex_list, wr (x := (at_ : Int) + i) rfl (by omega) (by omega), wr (x := (at_ : Int) + i + 2) (y := (at_ : Int) + ((i - 2 : Nat) : Int) + 4) (by omega) (by omega) (by omega)]
   ·dsimp only
    split <;> rfl
  ·rw [decide_eq_false g]
   have ih := rcol_l0 at_ l ha hl (b :: t) (i + 1) ht (by omega) (by omega)
   have e : colRes at_ l ((i + 1 : Nat) : Int) (b :: t) = colRes at_ l i (a :: b :: t) := by
    unfold colRes
    have hg := Lib.index_ge (b :: t) [58, 93]
    rw [index_two, if_neg g]
    generalize Lib.index (b :: t) [58, 93] = x at hg
    by_cases g2 : x = -1
    ·rw [if_pos g2, if_neg (by omega), if_neg (by omega)]
    ·rw [if_neg g2, if_pos (by omega), if_pos (by omega), show ((i + 1 : Nat) : Int) - 2 + x = (i : Int) - 2 + (x + 1) by omega]
   rw [e] at ih
   refine Ev.step (fun k => ?_) ih
   rw [burinref07_item.j2, if_neg (by decide), w1]
theorem colRes_cut (at_ : Int) (l : List UInt8) : colRes at_ l 2 (l.drop 2) = shiftV at_ (if (colCut l).2.2 = true then (if (turnV colTab (colCut l).1).2 = 0 then ((turnV colTab (colCut l).1).1.map toRg, 4 + ((colCut l).1.length : Int), 0) else ([], 0, 70)) else ([], 0, 82)) := by
 unfold colRes
 by_cases h : 0 ≤ Lib.index (l.drop 2) [58, 93]
 ·have hr := Lib.index_room _ _ h
  have hc : colCut l = ((l.drop 2).take (Lib.index (l.drop 2) [58, 93]).toNat, (l.drop 2).drop ((Lib.index (l.drop 2) [58, 93]).toNat + 2), true) := if_pos h
  rw [if_pos h, hc]
  dsimp only
  rw [if_pos rfl, show (2 : Int) - 2 + Lib.index (l.drop 2) [58, 93] = Lib.index (l.drop 2) [58, 93] by omega]
  unfold colOut
  generalize Lib.index (l.drop 2) [58, 93] = x at h hr
  by_cases g : (turnV colTab ((l.drop 2).take x.toNat)).2 = 0
  ·rw [if_pos g, if_pos g]
   have hlen : ((l.drop 2).take x.toNat).length = x.toNat := by rw [List.length_take]; omega
   unfold shiftV
   dsimp only
   rw [hlen, show at_ + (4 + (x.toNat : Int)) = at_ + x + 4 by omega]
  ·rw [if_neg g, if_neg g]
   unfold shiftV
   dsimp only
   rw [Int.add_zero]
 ·have hc : colCut l = (l.drop 2, [], false) := if_neg h
  rw [if_neg h, hc]
  dsimp only
  rw [if_neg (by decide)]
  unfold shiftV
  dsimp only
  rw [Int.add_zero]
theorem two_head {α : Type} (J : Bool → Option α) (l : List UInt8) : (if (l.length : Int) > 1 then (if 0 < (l.length : Int) then (if bt ⟨⟨l⟩⟩ 0 = 91 then (if 1 < (l.length : Int) then J (bt ⟨⟨l⟩⟩ 1 == 58) else none) else J false) else none) else J false) = J (decide (l.take 2 = [91, 58])) := by
 match l with
 | [] => rw [if_neg (by simp), decide_eq_false (by simp)]
 | [a] => rw [if_neg (by simp), decide_eq_false (by simp)]
 | a :: b :: t =>
  have h0 : bt ⟨⟨a :: b :: t⟩⟩ 0 = (a.toNat : Int) := (bt_drop (l := a :: b :: t) (i := 0) rfl).1
  have h1 : bt ⟨⟨a :: b :: t⟩⟩ 1 = (b.toNat : Int) := (bt_drop (l := a :: b :: t) (i := 1) rfl).1
  have hl : ((a :: b :: t : List UInt8).length : Int) = t.length + 2 := by simp only [List.length_cons]; omega
  rw [hl, if_pos (by omega), if_pos (by omega), h0, h1]
  by_cases e : (a.toNat : Int) = 91
  ·have ea : a = 91 := u8_eq (n := 91) e (by omega)
   rw [if_pos e, if_pos (by omega)]
   congr 1
   rw [Bool.eq_iff_iff, beq_iff_eq, decide_eq_true_eq]
   constructor
   ·intro hb
    rw [ea, u8_eq (n := 58) hb (by omega)]
    rfl
   ·intro hb
    have : a = 91 ∧ b = 58 := by simpa using hb
    rw [this.2]
    rfl
  ·rw [if_neg e, decide_eq_false]
   intro hh
   have : a = 91 ∧ b = 58 := by simpa using hh
   exact e (by rw [this.1]; rfl)
theorem rspan_ev (s : List UInt8) (hs : s.length ≤ 1000000) (at_ n : Nat) (lo : Int) (v : List UInt8) (h : s.drop (at_ + n + 1) = v) (hl : at_ + n + 1 ≤ s.length) : Ev (fun k => burinref07_item.j4 k ⟨⟨s⟩⟩ at_ lo ((at_ : Int) + n) false) (shiftV at_ (spanV lo n v)) := by
 have z := sz s
 have hex : (ByteArray.mk ⟨s⟩).extract (at_ + n + 1) s.length = ⟨⟨v⟩⟩ := by
  rw [ex_list, List.take_of_length_le (by rw [List.length_drop]; omega), h]
 have hv : v.length ≤ 1000000 := by rw [← h, List.length_drop]; omega
 have hvl : v.length = s.length - (at_ + n + 1) := by rw [← h, List.length_drop]
 have hw : wrap64 ((at_ : Int) + n + 1) = ((at_ + n + 1 : Nat) : Int) := wr (by omega) (by omega) (by omega)
 refine Ev.step (f := fun k => (burinref07_Set.f k ⟨⟨v⟩⟩).bind fun q => if q.2.2 = 5 then burinref07_item.j5 k ⟨⟨s⟩⟩ at_ lo ((at_ + n + 1 : Nat) : Int) false else burinref07_item.j5 k ⟨⟨s⟩⟩ at_ lo ((at_ + n + 1 : Nat) : Int) (q.2.2 != 3)) (fun k => by
  rw [burinref07_item.j4, if_neg (by decide), hw, z, if_pos (by omega), if_pos (by omega), Int.toNat_natCast, hex]) (Ev.bind (rset_ev v hv) ?_)
 have hj : Ev (fun k => burinref07_item.j5 k ⟨⟨s⟩⟩ at_ lo ((at_ + n + 1 : Nat) : Int) (decide ((setV v).2.2 ≠ 5 ∧ (setV v).2.2 ≠ 3))) (shiftV at_ (spanV lo n v)) := by
  unfold spanV shiftV
  by_cases e : (setV v).2.2 ≠ 5 ∧ (setV v).2.2 ≠ 3
  ·rw [decide_eq_true e, if_pos e]
   refine Ev.step (f := fun _ => some (([] : List S36), (at_ : Int) + ((n : Int) + 1), 70)) (fun k => ?_) (Ev.now _)
   rw [burinref07_item.j5, if_pos rfl, show ((at_ + n + 1 : Nat) : Int) = (at_ : Int) + ((n : Int) + 1) by omega]
  ·rw [decide_eq_false e, if_neg e]
   refine Ev.step (f := fun k => (burinref07_one.f k ⟨⟨v⟩⟩).bind fun p => if p.2.2 = 0 then (if p.1 < lo then some (([] : List S36), (at_ : Int), 70) else some ([⟨lo, p.1⟩], wrap64 (((at_ + n + 1 : Nat) : Int) + p.2.1), 0)) else some ([], ((at_ + n + 1 : Nat) : Int), p.2.2)) (fun k => by
    rw [burinref07_item.j5, if_neg (by decide), z, if_pos (by omega), if_pos (by omega), Int.toNat_natCast, hex]) (Ev.bind (rone_ev v hv) (ev_const fun k => ?_))
   by_cases e2 : (oneV v).2.2 = 0
   ·have ho := one_out v e2
    rw [if_pos e2, if_neg (show ¬ (oneV v).2.2 ≠ 0 from fun hh => hh e2)]
    by_cases e3 : (oneV v).1 < lo
    ·rw [if_pos e3, if_pos e3]
     dsimp only
     rw [Int.add_zero]
    ·rw [if_neg e3, if_neg e3, wr (x := ((at_ + n + 1 : Nat) : Int) + (oneV v).2.1) (y := (at_ : Int) + ((n : Int) + 1 + (oneV v).2.1)) (by omega) (by omega) (by omega)]
   ·rw [if_neg e2, if_pos e2]
    dsimp only
    rw [show ((at_ + n + 1 : Nat) : Int) = (at_ : Int) + ((n : Int) + 1) by omega]
 refine Ev.congr (fun k => ?_) hj
 try dsimp only
 by_cases e5 : (setV v).2.2 = 5
 ·rw [if_pos e5, decide_eq_false (fun hh => hh.1 e5)]
 ·rw [if_neg e5]
  congr 1
  rw [Bool.eq_iff_iff, bne_iff_ne, decide_eq_true_eq]
  exact ⟨fun hh => ⟨e5, hh⟩, fun hh => hh.2⟩
/-- The document's item. -/
theorem ritem_ev (s : List UInt8) (hs : s.length ≤ 1000000) (at_ : Nat) (l : List UInt8) (h : s.drop at_ = l) (ha : at_ ≤ s.length) : Ev (fun k => burinref07_item.f k ⟨⟨s⟩⟩ at_) (shiftV at_ (itemV l)) := by
 have z := sz s
 have hex : (ByteArray.mk ⟨s⟩).extract at_ s.length = ⟨⟨l⟩⟩ := by
  rw [ex_list, List.take_of_length_le (by rw [List.length_drop]; omega), h]
 have hv : l.length ≤ 1000000 := by rw [← h, List.length_drop]; omega
 have hvl : l.length = s.length - at_ := by rw [← h, List.length_drop]
 have h0 : ∀ k, burinref07_item.f k ⟨⟨s⟩⟩ at_ = burinref07_item.j0 k ⟨⟨s⟩⟩ at_ ⟨⟨l⟩⟩ (decide (l.take 2 = [91, 58])) := fun k => by
  unfold burinref07_item.f
  rw [z, if_pos (by omega), if_pos (by omega), Int.toNat_natCast, hex, sz]
  exact two_head (fun b => burinref07_item.j0 k ⟨⟨s⟩⟩ at_ ⟨⟨l⟩⟩ b) l
 refine Ev.congr h0 ?_
 unfold itemV
 by_cases e : l.take 2 = [91, 58]
 ·rw [if_pos e, decide_eq_true e, ← colRes_cut]
  have hl2 : 2 ≤ l.length := by
   have := congrArg List.length e
   rw [List.length_take] at this
   simp at this
   omega
  exact Ev.step (f := fun k => burinref07_item.l0 k at_ ⟨⟨l⟩⟩ 2) (fun k => by rw [burinref07_item.j0, if_pos rfl]) (rcol_l0 at_ l (by omega) hv (l.drop 2) 2 rfl (Nat.le_refl _) hl2)
 ·rw [if_neg e, decide_eq_false e]
  refine Ev.step (f := fun k => (burinref07_Set.f k ⟨⟨l⟩⟩).bind fun q => if q.2.2 = 0 then some (q.1, wrap64 ((at_ : Int) + q.2.1), 0) else if q.2.2 = 5 then burinref07_item.j3 k ⟨⟨s⟩⟩ at_ ⟨⟨l⟩⟩ q.2.2 false else burinref07_item.j3 k ⟨⟨s⟩⟩ at_ ⟨⟨l⟩⟩ q.2.2 (q.2.2 != 3)) (fun k => by rw [burinref07_item.j0, if_neg (by decide)]) (Ev.bind (rset_ev l hv) ?_)
  by_cases e1 : (setV l).2.2 = 0
  ·have ho := set_out l e1
   rw [if_pos e1]
   refine ev_const fun k => ?_
   rw [if_pos e1, wr rfl (by omega) (by omega)]
   unfold shiftV
   rw [e1]
  ·rw [if_neg e1]
   have hj3 : Ev (fun k => burinref07_item.j3 k ⟨⟨s⟩⟩ at_ ⟨⟨l⟩⟩ (setV l).2.2 (decide ((setV l).2.2 ≠ 5 ∧ (setV l).2.2 ≠ 3))) (shiftV at_ (if (setV l).2.2 ≠ 5 ∧ (setV l).2.2 ≠ 3 then ([], 0, (setV l).2.2) else if (oneV l).2.2 ≠ 0 then ([], 0, (oneV l).2.2) else tailV (oneV l).1 (oneV l).2.1 (l.drop (oneV l).2.1.toNat))) := by
    by_cases e2 : (setV l).2.2 ≠ 5 ∧ (setV l).2.2 ≠ 3
    ·rw [decide_eq_true e2, if_pos e2]
     unfold shiftV
     dsimp only
     rw [Int.add_zero]
     exact Ev.step (f := fun _ => some (([] : List S36), (at_ : Int), (setV l).2.2)) (fun k => by rw [burinref07_item.j3, if_pos rfl]) (Ev.now _)
    ·rw [decide_eq_false e2, if_neg e2]
     have hstep : ∀ k, burinref07_item.j3 (k + 1) ⟨⟨s⟩⟩ at_ ⟨⟨l⟩⟩ (setV l).2.2 false = (burinref07_one.f k ⟨⟨l⟩⟩).bind fun q => if q.2.2 = 0 then (if (wrap64 ((wrap64 ((at_ : Int) + q.2.1)) + 1)) ≥ (s.length : Int) then (burinref07_item.j4 k ⟨⟨s⟩⟩ at_ q.1 (wrap64 ((at_ : Int) + q.2.1)) true) else (if 0 ≤ (wrap64 ((at_ : Int) + q.2.1)) then (if (wrap64 ((at_ : Int) + q.2.1)) < (s.length : Int) then (if (bt ⟨⟨s⟩⟩ (wrap64 ((at_ : Int) + q.2.1))) = 45 then (if 0 ≤ (wrap64 ((wrap64 ((at_ : Int) + q.2.1)) + 1)) then (if (wrap64 ((wrap64 ((at_ : Int) + q.2.1)) + 1)) < (s.length : Int) then (burinref07_item.j4 k ⟨⟨s⟩⟩ at_ q.1 (wrap64 ((at_ : Int) + q.2.1)) ((bt ⟨⟨s⟩⟩ (wrap64 ((wrap64 ((at_ : Int) + q.2.1)) + 1))) == 93)) else none) else none) else (burinref07_item.j4 k ⟨⟨s⟩⟩ at_ q.1 (wrap64 ((at_ : Int) + q.2.1)) true)) else none) else none)) else some (([] : List S36), (at_ : Int), q.2.2) := fun k => by
      rw [burinref07_item.j3, if_neg (by decide), z]
     refine Ev.step hstep (Ev.bind (rone_ev l hv) ?_)
     by_cases e3 : (oneV l).2.2 = 0
     ·rw [if_neg (show ¬ (oneV l).2.2 ≠ 0 from fun hh => hh e3)]
      have ho := one_out l e3
      simp only [if_pos e3]
      obtain ⟨n, hn⟩ : ∃ n : Nat, (oneV l).2.1 = n := ⟨(oneV l).2.1.toNat, by omega⟩
      rw [hn] at ho ⊢
      have wn : wrap64 ((at_ : Int) + n) = (at_ : Int) + n := wr rfl (by omega) (by omega)
      have wn1 : wrap64 ((at_ : Int) + n + 1) = (at_ : Int) + n + 1 := wr rfl (by omega) (by omega)
      rw [wn, wn1, Int.toNat_natCast]
      generalize (oneV l).1 = lo at ho
      have hnl : n ≤ l.length := by omega
      have hdr : s.drop (at_ + n) = l.drop n := by rw [← h, List.drop_drop]
      have hone : Ev (fun k => burinref07_item.j4 k ⟨⟨s⟩⟩ at_ lo ((at_ : Int) + n) true) (shiftV at_ ([⟨lo, lo⟩], (n : Int), 0)) := Ev.step (f := fun _ => some ([⟨lo, lo⟩], (at_ : Int) + n, 0)) (fun k => by rw [burinref07_item.j4, if_pos rfl]) (Ev.now _)
      cases hq : l.drop n with
      | nil =>
       have : l.length ≤ n := List.drop_eq_nil_iff.1 hq
       refine Ev.congr (fun k => ?_) hone
       try dsimp only
       rw [if_pos (by omega)]
      | cons a u =>
       rw [hq] at hdr
       obtain ⟨hb1, hi1, ht1⟩ := bt_drop hdr
       rw [show ((at_ + n : Nat) : Int) = (at_ : Int) + n by omega] at hb1
       cases u with
       | nil =>
        have hlen := congrArg List.length hdr
        rw [List.length_drop] at hlen
        simp at hlen
        refine Ev.congr (fun k => ?_) hone
        try dsimp only
        rw [if_pos (by omega)]
       | cons b v =>
        obtain ⟨hb2, hi2, ht2⟩ := bt_drop ht1
        rw [show ((at_ + n + 1 : Nat) : Int) = (at_ : Int) + n + 1 by omega] at hb2
        simp only [tailV]
        by_cases ga : a = 45
        ·have ga2 : (a.toNat : Int) = 45 := by rw [ga]; rfl
         by_cases gb : b = 93
         ·rw [if_neg (fun hh => hh.2 gb)]
          refine Ev.congr (fun k => ?_) hone
          try dsimp only
          rw [if_neg (by omega), if_pos (by omega), if_pos (by omega), hb1, hb2, if_pos ga2, if_pos (by omega), if_pos (by omega), gb]
          rfl
         ·rw [if_pos ⟨ga, gb⟩]
          refine Ev.congr (fun k => ?_) (rspan_ev s hs at_ n lo (b :: v) ht1 (by omega))
          try dsimp only
          rw [if_neg (by omega), if_pos (by omega), if_pos (by omega), hb1, hb2, if_pos ga2, if_pos (by omega), if_pos (by omega), show ((b.toNat : Int) == 93) = false from beq_eq_false_iff_ne.2 fun hh => gb (u8_eq (n := 93) hh (by omega))]
        ·rw [if_neg (fun hh => ga hh.1)]
         refine Ev.congr (fun k => ?_) hone
         try dsimp only
         rw [if_neg (by omega), if_pos (by omega), if_pos (by omega), hb1, if_neg (show ¬ (a.toNat : Int) = 45 from fun hh => ga (u8_eq (n := 45) hh (by omega)))]
     ·rw [if_pos e3]
      unfold shiftV
      dsimp only
      rw [Int.add_zero]
      refine ev_const fun k => ?_
      rw [if_neg e3]
   refine Ev.congr (fun k => ?_) hj3
   try dsimp only
   rw [if_neg e1]
   by_cases e5 : (setV l).2.2 = 5
   ·rw [if_pos e5, decide_eq_false (fun hh => hh.1 e5)]
   ·rw [if_neg e5]
    congr 1
    rw [Bool.eq_iff_iff, bne_iff_ne, decide_eq_true_eq]
    exact ⟨fun hh => ⟨e5, hh⟩, fun hh => hh.2⟩
theorem norm_fixed {m : List (Int × Int)} (h : Nrm m) : normL m = m := nrm_ext (normL_nrm _) h (fun r => by rw [normL_in, hasL_nrm h])
theorem has_norm (l : List (Int × Int)) : hasL (normL l) = hasL l := by
 funext r
 rw [hasL_nrm (normL_nrm l), normL_in]
theorem close_norm (l : List (Int × Int)) : closeL (normL l) = closeL l := by
 refine nrm_ext (closeL_nrm _) (closeL_nrm _) fun r => ?_
 rw [closeL_in, closeL_in, has_norm]
theorem not_norm (l : List (Int × Int)) : notL (normL l) = notL l := by
 refine nrm_ext (notL_nrm _) (notL_nrm _) fun r => ?_
 rw [notL_in, notL_in, normL_in]
 unfold hasL
 cases decide (0 ≤ r) <;> cases decide (r ≤ 1114111) <;> cases inL l r <;> rfl
/-- What the document makes of the items' ranges. -/
theorem made_same (neg fold : Bool) (l : List (Int × Int)) : (if neg = true then notL (if fold = true then closeL (normL l) else normL l) else (if fold = true then closeL (normL l) else normL l)) = madeL neg fold l := by
 unfold madeL
 cases fold with
 | true =>
  simp only [if_true]
  rw [close_norm]
  cases neg with
  | true => simp only [if_true]; exact (norm_fixed (notL_nrm _)).symm
  | false => simp only [Bool.false_eq_true, if_false]; exact (norm_fixed (closeL_nrm _)).symm
 | false =>
  simp only [Bool.false_eq_true, if_false]
  cases neg with
  | true => simp only [if_true]; rw [not_norm]; exact (norm_fixed (notL_nrm _)).symm
  | false => simp only [Bool.false_eq_true, if_false]
/-- The end of the document's reading. -/
theorem rend_ev (s : ByteArray) (flags : Int) (at_ F : Int) (hF : F = 1 ∨ F = 2) (acc : List S36) (ha : acc.length ≤ 50000) (h0 : 0 ≤ at_) (h1 : at_ ≤ 1000000) : Ev (fun k => burinref07_Bracket.j4 k s flags at_ F acc true) ((madeL (decide (F = 2)) (foldB flags) (acc.map ofRg)).map toRg, at_ + 1, 0) := by
 have w1 : wrap64 (at_ + 1) = at_ + 1 := wr rfl (by omega) (by omega)
 have hlen := normL_len (acc.map ofRg)
 rw [List.length_map] at hlen
 have hN := rnorm_ev (acc.map ofRg) (by rw [List.length_map]; omega)
 rw [map_back] at hN
 rw [← made_same]
 generalize normL (acc.map ofRg) = m at hN hlen
 have hend : ∀ A : List (Int × Int), A.length ≤ 900000 → Ev (fun k => if F = 2 then (burinref02_Not.f k (A.map toRg)).bind fun t => some (t, wrap64 (at_ + 1), (0 : Int)) else some (A.map toRg, wrap64 (at_ + 1), 0)) ((if decide (F = 2) = true then notL A else A).map toRg, at_ + 1, 0) := fun A hA => by
  by_cases e : F = 2
  ·rw [if_pos (decide_eq_true e)]
   refine Ev.congr (f := fun k => (burinref02_Not.f k (A.map toRg)).bind fun t => some (t, wrap64 (at_ + 1), (0 : Int))) (fun k => if_pos e) (Ev.bind (rnot_ev A hA) (ev_const fun k => by rw [w1]))
  ·rw [if_neg (by rw [decide_eq_true_eq]; exact e)]
   exact ev_const fun k => by rw [if_neg e, w1]
 refine Ev.step (f := fun k => (burinref02_Norm.f k acc).bind fun t => if (Go.bits .and .i64 flags 1) = 0 then (if F = 2 then (burinref02_Not.f k t).bind fun u => some (u, wrap64 (at_ + 1), (0 : Int)) else some (t, wrap64 (at_ + 1), 0)) else (burinref03_Close.f k t).bind fun t => if F = 2 then (burinref02_Not.f k t).bind fun u => some (u, wrap64 (at_ + 1), (0 : Int)) else some (t, wrap64 (at_ + 1), 0)) (fun k => by rw [burinref07_Bracket.j4, if_pos rfl]) (Ev.bind hN ?_)
 unfold foldB
 by_cases ef : (Go.bits .and .i64 flags 1) = 0
 ·rw [if_neg (show ¬ decide (Go.bits .and .i64 flags 1 ≠ 0) = true by rw [decide_eq_true_eq]; exact fun hh => hh ef)]
  exact Ev.congr (fun k => if_pos ef) (hend m (by omega))
 ·rw [if_pos (decide_eq_true ef)]
  have hc := close_len m
  exact Ev.congr (f := fun k => (burinref03_Close.f k (m.map toRg)).bind fun t => if F = 2 then (burinref02_Not.f k t).bind fun u => some (u, wrap64 (at_ + 1), (0 : Int)) else some (t, wrap64 (at_ + 1), 0)) (fun k => if_neg ef) (Ev.bind (rclose_ev m (by omega)) (hend (closeL m) (by omega)))
/-- The items of the document, one behind the other. -/
theorem rbr_ev (s : List UInt8) (hs : s.length ≤ 100) (flags : Int) (F : Nat) (hF2 : F = 1 ∨ F = 2) : ∀ (fuel : Nat) (l : List UInt8) (at_ : Nat) (first : Bool) (acc : List S36), s.drop at_ = l → l.length < fuel → at_ ≤ s.length → F ≤ at_ → (first = true ↔ at_ = F) → acc.length ≤ 400 * at_ → Ev (fun k => burinref07_Bracket.l0 k ⟨⟨s⟩⟩ flags at_ F acc) (if (brL fuel l first at_ acc).2.2 ≠ 0 then brL fuel l first at_ acc else ((madeL (decide ((F : Int) = 2)) (foldB flags) ((brL fuel l first at_ acc).1.map ofRg)).map toRg, (brL fuel l first at_ acc).2.1 + 1, 0))
 | 0, l, at_, first, acc, h, hf, ha, hF, hfi, hacc => absurd hf (Nat.not_lt_zero _)
 | fuel + 1, l, at_, first, acc, h, hf, ha, hF, hfi, hacc => by
  have z := sz s
  have hvl : l.length = s.length - at_ := by rw [← h, List.length_drop]
  have hstop : brL (fuel + 1) l first at_ acc = if first = true ∨ (l ≠ [] ∧ l.head? ≠ some 93) then (if (itemV l).2.2 ≠ 0 then ([], (at_ : Int) + (itemV l).2.1, (itemV l).2.2) else brL fuel (l.drop (itemV l).2.1.toNat) false ((at_ : Int) + (itemV l).2.1) (acc ++ (itemV l).1)) else if l = [] then ([], (at_ : Int), 82) else (acc, (at_ : Int), 0) := rfl
  rw [hstop]
  by_cases en : l = []
  ·subst en
   simp at hvl
   have hres : (if first = true ∨ (([] : List UInt8) ≠ [] ∧ ([] : List UInt8).head? ≠ some 93) then (if (itemV []).2.2 ≠ 0 then (([] : List S36), (at_ : Int) + (itemV []).2.1, (itemV []).2.2) else brL fuel (([] : List UInt8).drop (itemV []).2.1.toNat) false ((at_ : Int) + (itemV []).2.1) (acc ++ (itemV []).1)) else if ([] : List UInt8) = [] then ([], (at_ : Int), 82) else (acc, (at_ : Int), 0)) = ([], (at_ : Int), 82) := by
    have hi : itemV [] = ([], 0, 82) := rfl
    rw [hi]
    split
    ·rw [if_pos (by decide)]
     dsimp only
     rw [Int.add_zero]
    ·rw [if_pos rfl]
   rw [hres, if_pos (show (82 : Int) ≠ 0 by decide)]
   refine Ev.step (f := fun _ => some ([], (at_ : Int), 82)) (fun k => ?_) (Ev.now _)
   rw [burinref07_Bracket.l0, z, if_pos (by omega), show s.length = at_ by omega]
  ·have hpos : 0 < l.length := List.length_pos_iff.2 en
   have h0 : ∀ k, burinref07_Bracket.l0 (k + 1) ⟨⟨s⟩⟩ flags at_ F acc = burinref07_Bracket.j4 k ⟨⟨s⟩⟩ flags at_ F acc (decide (¬ (first = true ∨ (l ≠ [] ∧ l.head? ≠ some 93)))) := fun k => by
    cases l with
    | nil => exact absurd rfl en
    | cons c t =>
     obtain ⟨hb, hi, _⟩ := bt_drop h
     rw [burinref07_Bracket.l0, z, if_neg (by omega), if_pos (by omega), if_pos (by omega), hb]
     by_cases e93 : (c.toNat : Int) = 93
     ·have ec : c = 93 := u8_eq (n := 93) e93 (by omega)
      rw [if_pos e93]
      congr 1
      rw [decide_eq_decide, ec]
      constructor
      ·rintro hgt (hh | hh)
       ·have := hfi.1 hh; omega
       ·exact hh.2 rfl
      ·intro hh
       have : ¬ at_ = F := fun hhh => hh (.inl (hfi.2 hhh))
       omega
     ·rw [if_neg e93, decide_eq_false]
      intro hh
      exact hh (.inr ⟨by simp, by simp; intro hc; exact e93 (by rw [hc]; rfl)⟩)
   by_cases g : first = true ∨ (l ≠ [] ∧ l.head? ≠ some 93)
   ·rw [if_pos g]
    refine Ev.step (f := fun k => burinref07_Bracket.j4 k ⟨⟨s⟩⟩ flags at_ F acc false) (fun k => by rw [h0, decide_eq_false (fun hh => hh g)]) ?_
    refine Ev.step (f := fun k => (burinref07_item.f k ⟨⟨s⟩⟩ at_).bind fun q => if q.2.2 = 0 then (if acc.length + q.1.length < 8796093022208 then burinref07_Bracket.l0 k ⟨⟨s⟩⟩ flags q.2.1 F (acc ++ q.1) else none) else some ([], q.2.1, q.2.2)) (fun k => by rw [burinref07_Bracket.j4, if_neg (by decide)]) (Ev.bind (ritem_ev s (by omega) at_ l h ha) ?_)
    unfold shiftV
    by_cases e : (itemV l).2.2 ≠ 0
    ·rw [if_pos e]
     dsimp only
     rw [if_pos e]
     refine ev_const fun _ => ?_
     rw [if_neg e]
    ·rw [if_neg e]
     have ho := item_out l (Decidable.not_not.1 e)
     obtain ⟨n, hn⟩ : ∃ n : Nat, (itemV l).2.1 = n := ⟨(itemV l).2.1.toNat, by omega⟩
     rw [hn] at ho ⊢
     have ih := rbr_ev s hs flags F hF2 fuel (l.drop n) (at_ + n) false (acc ++ (itemV l).1) (by rw [← h, List.drop_drop]) (by rw [List.length_drop]; omega) (by omega) (by omega) ⟨fun h => (by cases h), fun h => (by omega)⟩ (by rw [List.length_append]; omega)
     rw [show ((at_ + n : Nat) : Int) = (at_ : Int) + n by omega] at ih
     rw [Int.toNat_natCast]
     refine Ev.congr (fun k => ?_) ih
     try dsimp only
     rw [if_pos (Decidable.not_not.1 e), if_pos (by omega)]
   ·rw [if_neg g, if_neg en, if_neg (show ¬ (0 : Int) ≠ 0 from fun hh => hh rfl)]
    exact Ev.step (f := fun k => burinref07_Bracket.j4 k ⟨⟨s⟩⟩ flags at_ F acc true) (fun k => by rw [h0, decide_eq_true g]) (rend_ev ⟨⟨s⟩⟩ flags at_ F (by omega) acc (by omega) (by omega) (by omega))
/-- The document's set between brackets. -/
theorem rbracket_ev (s : List UInt8) (hs : s.length ≤ 100) (flags : Int) : Ev (fun k => burinref07_Bracket.f k ⟨⟨s⟩⟩ flags) (brV s flags) := by
 have z := sz s
 have bad : Ev (fun k => burinref07_Bracket.j0 k ⟨⟨s⟩⟩ flags true) (([] : List S36), 0, 3) := Ev.step (f := fun _ => some (([] : List S36), 0, 3)) (fun k => by rw [burinref07_Bracket.j0, if_pos rfl]) (Ev.now _)
 cases s with
 | nil => exact Ev.congr (fun k => by unfold burinref07_Bracket.f; rw [tl, if_pos rfl]) bad
 | cons c t =>
  have hb : bt ⟨⟨c :: t⟩⟩ 0 = (c.toNat : Int) := (bt_drop (l := c :: t) (i := 0) rfl).1
  have h0 : ∀ k, burinref07_Bracket.f k ⟨⟨c :: t⟩⟩ flags = burinref07_Bracket.j0 k ⟨⟨c :: t⟩⟩ flags (decide (¬ c = 91)) := fun k => by
   unfold burinref07_Bracket.f
   rw [tl, if_neg (by simp), z, if_pos (by simp only [List.length_cons]; omega), hb]
   congr 1
   rw [Bool.eq_iff_iff, bne_iff_ne, decide_eq_true_eq]
   exact ⟨fun hh hc => hh (by rw [hc]; rfl), fun hh hc => hh (u8_eq (n := 91) hc (by omega))⟩
  refine Ev.congr h0 ?_
  by_cases e : c = 91
  ·subst e
   rw [decide_eq_false (fun hh => hh rfl)]
   have hlen : ((91 :: t : List UInt8).length : Int) = t.length + 1 := by simp only [List.length_cons]; omega
   have h1 : ∀ k, burinref07_Bracket.j0 (k + 1) ⟨⟨91 :: t⟩⟩ flags false = burinref07_Bracket.j1 k ⟨⟨91 :: t⟩⟩ flags 1 (decide (t.head? = some 94)) := fun k => by
    rw [burinref07_Bracket.j0, if_neg (by decide), z, hlen]
    cases t with
    | nil => rw [if_neg (by simp), decide_eq_false (by simp)]
    | cons d u =>
     have hb1 : bt ⟨⟨91 :: d :: u⟩⟩ 1 = (d.toNat : Int) := (bt_drop (l := 91 :: d :: u) (i := 1) rfl).1
     rw [if_pos (by simp only [List.length_cons]; omega), if_pos (by simp only [List.length_cons]; omega), hb1]
     congr 1
     rw [Bool.eq_iff_iff, beq_iff_eq, decide_eq_true_eq]
     constructor
     ·intro hh
      rw [u8_eq (n := 94) hh (by omega)]
      rfl
     ·intro hh
      have : d = 94 := by simpa using hh
      rw [this]
      rfl
   refine Ev.step h1 ?_
   have fin : ∀ F : Nat, F = 1 ∨ F = 2 → F ≤ (91 :: t : List UInt8).length → Ev (fun k => burinref07_Bracket.j2 k ⟨⟨91 :: t⟩⟩ flags F) (if (brL ((91 :: t : List UInt8).length + 1) ((91 :: t : List UInt8).drop F) true F []).2.2 ≠ 0 then brL ((91 :: t : List UInt8).length + 1) ((91 :: t : List UInt8).drop F) true F [] else ((madeL (decide ((F : Int) = 2)) (foldB flags) ((brL ((91 :: t : List UInt8).length + 1) ((91 :: t : List UInt8).drop F) true F []).1.map ofRg)).map toRg, (brL ((91 :: t : List UInt8).length + 1) ((91 :: t : List UInt8).drop F) true F []).2.1 + 1, 0)) := fun F hF hFl =>
    Ev.step (f := fun k => burinref07_Bracket.l0 k ⟨⟨91 :: t⟩⟩ flags F F []) (fun k => by rw [burinref07_Bracket.j2]) (rbr_ev (91 :: t) hs flags F hF ((91 :: t : List UInt8).length + 1) ((91 :: t : List UInt8).drop F) F true [] rfl (by rw [List.length_drop]; omega) hFl (Nat.le_refl _) ⟨fun _ => rfl, fun _ => rfl⟩ (by simp))
   by_cases g : t.head? = some 94
   ·rw [decide_eq_true g]
    obtain ⟨u, rfl⟩ : ∃ u, t = 94 :: u := by
     cases t with
     | nil => cases g
     | cons d u => exact ⟨u, by rw [show d = 94 by simpa using g]⟩
    rw [brV_lacks flags rfl]
    exact Ev.step (f := fun k => burinref07_Bracket.j2 k ⟨⟨91 :: 94 :: u⟩⟩ flags 2) (fun k => by rw [burinref07_Bracket.j1, if_pos rfl]) (fin 2 (.inr rfl) (by simp))
   ·rw [decide_eq_false g, brV_plain flags g rfl]
    exact Ev.step (f := fun k => burinref07_Bracket.j2 k ⟨⟨91 :: t⟩⟩ flags 1) (fun k => by rw [burinref07_Bracket.j1, if_neg (by decide)]) (fin 1 (.inl rfl) (by simp))
  ·rw [decide_eq_true e]
   have hv : brV (c :: t) flags = ([], 0, 3) := by unfold brV; rw [if_pos (by simp; exact e)]
   rw [hv]
   exact bad
set_option maxRecDepth 100000 in
theorem works_ev : Ev burinlaw07_works.f true := Ev.of burinlaw07_works.mono (k := 40) (by decide +kernel)
/-! The contracts, told by pairs. -/
theorem toC {A : Option Addr} {a : List (Int × Int)} {w : World} (h : Kd.C kRg w A a.length a) : Kd.C k36 w A (a.map toRg).length (a.map toRg) := by
 rw [rg_kd, List.length_map]
 exact C_iso.2 (by rw [map_forth]; exact h)
theorem fromR {e base : Nat} {ok : Nat → Prop} {v : Value} {a : List (Int × Int)} {w : World} (h : Kd.R k36 e w base ok v (a.map toRg)) : Kd.R kRg e w base ok v a := by
 have := R_iso.1 (rg_kd ▸ h)
 rwa [map_forth] at this
theorem same_at {A A' : Option Addr} {c c' : Nat} {a : List (Int × Int)} {w : World} (hn : a.length ≤ 2000000) (h : Kd.C kRg w A a.length a) (hc : a.length ≤ c) (h' : Kd.C kRg w A' a.length a) (hc' : a.length ≤ c') :
  Calls Tryz.prog 13 #[.slice A a.length c, .slice A' a.length c'] w (fun e w' => e = .returned (.bool true) ∧ Below w.heap.size w w') := by
 obtain ⟨k, hk⟩ := Ev.rounds (same_ev (a.map toRg) (by simpa using hn))
 have := burinbook_SameRanges.calls k A c (a.map toRg) A' c' (a.map toRg) true w (toC h) (by simpa using hc) (toC h') (by simpa using hc') hk
 rw [List.length_map] at this
 exact this.mono fun e w' ⟨he, hb⟩ => ⟨he, hb.below⟩
theorem works_call {w : World} (hM : MaxAt w) : Calls Tryz.prog 8 #[] w (fun e w' => e = .returned (.bool true) ∧ Below w.heap.size w w') := by
 obtain ⟨k, hk⟩ := Ev.rounds works_ev
 exact burinlaw07_works.calls k true w hM hk rfl
theorem bracket_at (s : List UInt8) (flags : Int) (hs : s.length ≤ 100) {w : World} (hM : MaxAt w) : Calls Tryz.prog 14 #[.string ⟨⟨s⟩⟩, .int .i64 flags] w (fun e w' => ∃ v, e = .returned (.tuple #[v, .int .i64 (brV s flags).2.1, .int .i64 (brV s flags).2.2]) ∧ Kd.R kRg 36 w' w.heap.size (fun _ => True) v ((brV s flags).1.map ofRg) ∧ Below w.heap.size w w') := by
 obtain ⟨k, hk⟩ := Ev.rounds (bracket_ev s (by omega) flags)
 have := bracket_Bracket.calls k ⟨⟨s⟩⟩ flags (brV s flags).1 (brV s flags).2.1 (brV s flags).2.2 w hM hk
 exact this.mono fun e w' ⟨v, he, hR, hb⟩ => ⟨v, he, fromR (by rw [map_back]; exact hR), hb⟩
theorem rbracket_at (s : List UInt8) (flags : Int) (hs : s.length ≤ 100) {w : World} : Calls Tryz.prog 15 #[.string ⟨⟨s⟩⟩, .int .i64 flags] w (fun e w' => ∃ v, e = .returned (.tuple #[v, .int .i64 (brV s flags).2.1, .int .i64 (brV s flags).2.2]) ∧ Kd.R kRg 36 w' w.heap.size (fun _ => True) v ((brV s flags).1.map ofRg) ∧ Below w.heap.size w w') := by
 obtain ⟨k, hk⟩ := Ev.rounds (rbracket_ev s hs flags)
 have := burinref07_Bracket.calls k ⟨⟨s⟩⟩ flags (brV s flags).1 (brV s flags).2.1 (brV s flags).2.2 w hk
 exact this.mono fun e w' ⟨v, he, hR, hb⟩ => ⟨v, he, fromR (by rw [map_back]; exact hR), hb⟩
set_option maxHeartbeats 1000000 in
theorem BracketReads_walk (s : ByteArray) (flags : Int) (w : World) (hM : MaxAt w) (_hs : s.size ≤ 140737488351232) :
  Calls Tryz.prog 4 #[.string s, .int .i64 flags] w (fun e w' => e = .returned (.bool true) ∧ Below w.heap.size w w') := by
 obtain ⟨⟨s⟩⟩ := s
 have z := sz s
 rw [z] at _hs
 by_cases h100 : s.length ≤ 100
 ·have hlen := brV_len s flags (by omega)
  have HB := Aside0.mk (fun (w : World) (hM : MaxAt w) => bracket_at s flags h100 (w := w) hM)
  have HRB := Aside0.mk (fun (w : World) => rbracket_at s flags h100 (w := w))
  rw [← List.length_map (f := ofRg)] at hlen
  generalize (brV s flags).2.1 = n at HB HRB
  generalize (brV s flags).2.2 = c at HB HRB
  generalize (brV s flags).1.map ofRg = m at HB HRB hlen
  have HS := Aside0.mk (fun (A A' : Option Addr) (c c' : Nat) (w : World) (h : Kd.C kRg w A m.length m) (hc : m.length ≤ c) (h' : Kd.C kRg w A' m.length m) (hc' : m.length ≤ c') => same_at (by omega) h hc h' hc')
  have HW := Aside0.mk (fun (w : World) (hM : MaxAt w) => works_call (w := w) hM)
  have HM := Aside0.mk hM
  clear hM hlen
  rw [← z] at h100
  generalize (⟨⟨s⟩⟩ : ByteArray) = t at HB HRB h100 z ⊢
  clear z
  go_enter Tryz.func4, Tryz.ntmps4
  go_wp2_with fail
  refine (HB.out w HM.out).mono ?_
  rintro e1 w1 ⟨v1, rfl, hR1, hb1⟩
  obtain ⟨A1, c1, rfl⟩ := Kd.R_slice hR1
  have HR1 := Aside0.mk hR1
  have HB1 := Aside0.mk hb1
  clear hR1 hb1
  go_wp2_with fail
  refine (HRB.out w1).mono ?_
  rintro e2 w2 ⟨v2, rfl, hR2, hb2⟩
  obtain ⟨A2, c2, rfl⟩ := Kd.R_slice hR2
  have HR2 := Aside0.mk hR2
  have HB2 := Aside0.mk hb2
  clear hR2 hb2
  go_wp2_with fail
  refine (HS.out A1 A2 c1 c2 w2 (Kd.C_below (Kd.R_reads' HR1.out).2.2 HB2.out) (Kd.R_reads' HR1.out).2.1 (Kd.R_reads' HR2.out).2.2 (Kd.R_reads' HR2.out).2.1).mono ?_
  rintro e3 w3 ⟨rfl, hb3⟩
  have HM3 := Aside0.mk (Kd.R_below (Kd.R_below HR1.out HB2.out) hb3)
  have HB13 := Aside0.mk (HB1.out.trans (HB2.out.mono HB1.out.size))
  have HB3 := Aside0.mk (HB13.out.trans (hb3.mono HB13.out.size))
  clear HR1 HR2 HB1 HB2 HB13 hb3
  go_wp2_with fail
  refine (spoil_any m w3 w.heap.size _ _ HM3.out).mono ?_
  rintro e4 w4 ⟨rfl, hb4⟩
  have HBB := Aside0.mk (HB3.out.trans hb4)
  clear HM3 HB3 hb4
  go_wp2_with fail
  refine (HW.out w4 (MaxAt.below HM.out HBB.out)).mono ?_
  rintro e5 w5 ⟨rfl, hb5⟩
  have hbb := HBB.out.trans (hb5.mono HBB.out.size)
  clear HBB hb5
  have HBB := Aside0.mk hbb
  clear hbb
  go_wp2
  go_ret
  exact ⟨rfl, HBB.out⟩
 ·have HW := Aside0.mk (works_call (w := w) hM)
  clear hM
  rw [← z] at h100
  generalize (⟨⟨s⟩⟩ : ByteArray) = t at h100 z ⊢
  clear z
  go_enter Tryz.func4, Tryz.ntmps4
  go_wp2_with fail
  refine HW.out.mono ?_
  rintro e w1 ⟨rfl, hb⟩
  go_wp2
  go_ret
  exact ⟨rfl, hb⟩
end Go.Proofs.YtheheijhijeljaaGreatDoor.Pure

