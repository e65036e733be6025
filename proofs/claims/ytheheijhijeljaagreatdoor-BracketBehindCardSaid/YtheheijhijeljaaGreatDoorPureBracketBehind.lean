/- BracketBehind: what stands behind changes nothing; no condition. -/
import Derived.Test.YtheheijhijeljaaGreatDoorHBracketBehindx13
import Derived.Test.YtheheijhijeljaaGreatDoorBBracketBehind1
namespace Go.Proofs.YtheheijhijeljaaGreatDoor.Pure
open Go.RowKit Go.Proofs.YtheheijhijeljaaGreatDoor.HBracketBehind Go.Proofs.YtheheijhijeljaaGreatDoorW.PrintWords Go.Proofs.YtheheijhijeljaaGreatDoorW.PrintLast
open Go.Proofs.YtheheijhijeljaaGreatDoorX
theorem ev_from {α : Type} {g : Nat → Option α} {r : α} (K : Nat) (h : ∀ k, K ≤ k → g k = some r) : Ev g r := ⟨K, h⟩
theorem wr {x y : Int} (e : x = y) (h0 : -9223372036854775808 ≤ y) (h1 : y ≤ 9223372036854775807) : wrap64 x = y := by
  subst e
  unfold wrap64
  omega
theorem wrap_in {x : Int} (h0 : -9223372036854775808 ≤ x) (h1 : x ≤ 9223372036854775807) : wrap64 x = x := wr rfl h0 h1
theorem bt_drop {l : List UInt8} {i : Nat} {c : UInt8} {t : List UInt8} (h : l.drop i = c :: t) : bt ⟨⟨l⟩⟩ (i : Int) = (c.toNat : Int) ∧ i < l.length ∧ l.drop (i + 1) = t := by
  have hi : i < l.length := Decidable.byContradiction fun hh => by rw [List.drop_eq_nil_of_le (by omega)] at h; cases h
  rw [List.drop_eq_getElem_cons hi] at h
  obtain ⟨h1, h2⟩ := List.cons.inj h
  refine ⟨?_, hi, h2⟩
  unfold bt
  rw [dif_pos (show ((i : Int)).toNat < (ByteArray.mk ⟨l⟩).size by simpa [ByteArray.size] using hi)]
  rw [← h1]
  rfl
theorem sz (l : List UInt8) : (ByteArray.mk ⟨l⟩).size = l.length := by simp [ByteArray.size]
theorem tl (l : List UInt8) : (ByteArray.mk ⟨l⟩).toList = l := by rw [ByteArray.toList_eq]
theorem u8_in (c : UInt8) : 0 ≤ (c.toNat : Int) ∧ (c.toNat : Int) ≤ 255 := by have := c.toNat_lt; omega
/-- What a hexadecimal digit says. -/
def digV (c : Int) : Int := if 48 ≤ c ∧ c ≤ 57 then c - 48 else if 97 ≤ c ∧ c ≤ 102 then c - 87 else if 65 ≤ c ∧ c ≤ 70 then c - 55 else -1
theorem digV_in (c : Int) : -1 ≤ digV c ∧ digV c ≤ 15 := by
  unfold digV
  split
  · omega
  split
  · omega
  split <;> omega
theorem digit_f (k : Nat) {c : Int} (h0 : 0 ≤ c) (h1 : c ≤ 255) : bracket_digit.f (k + 2) c = some (digV c) := by
  unfold bracket_digit.f digV
  by_cases a : 48 ≤ c
  · by_cases b : c ≤ 57
    · rw [if_pos a, decide_eq_true b, if_pos ⟨a, b⟩, bracket_digit.j0, if_pos rfl]
      congr 1
      omega
    · rw [if_pos a, decide_eq_false b, if_neg (fun h => b h.2), bracket_digit.j0, if_neg (by decide)]
      by_cases d : 97 ≤ c
      · by_cases e : c ≤ 102
        · rw [if_pos d, decide_eq_true e, if_pos ⟨d, e⟩, bracket_digit.j1, if_pos rfl]
          congr 1
          omega
        · rw [if_pos d, decide_eq_false e, if_neg (fun h => e h.2), bracket_digit.j1, if_neg (by decide), if_pos (by omega), if_neg (by omega), if_neg (by omega)]
      · rw [if_neg d, if_neg (fun h => d h.1), bracket_digit.j1, if_neg (by decide)]
        by_cases f : 65 ≤ c
        · by_cases g : c ≤ 70
          · rw [if_pos f, if_pos g, if_pos ⟨f, g⟩]
            congr 1
            omega
          · rw [if_pos f, if_neg g, if_neg (fun h => g h.2)]
        · rw [if_neg f, if_neg (fun h => f h.1)]
  · rw [if_neg a, if_neg (fun h => a h.1), if_neg (by omega), if_neg (by omega), bracket_digit.j0, if_neg (by decide), if_neg (by omega), bracket_digit.j1, if_neg (by decide), if_neg (by omega)]
/-- A number between braces: what stands from a place on, and what was read. -/
def hexLongV : List UInt8 → Nat → Int → Int × Int × Int
  | [], _, _ => (0, 0, 82)
  | c :: t, i, r => if (c.toNat : Int) = 125 ∧ 3 < i ∧ r ≤ 1114111 then (r, (i : Int) + 1, 0) else if digV c.toNat < 0 ∨ i = 9 then (0, 0, 80) else hexLongV t (i + 1) (16 * r + digV c.toNat)
def hexShortV : List UInt8 → Int × Int × Int
  | [] => (0, 0, 82)
  | [a] => if digV a.toNat < 0 then (0, 0, 80) else (0, 0, 82)
  | a :: b :: _ => if digV a.toNat < 0 then (0, 0, 80) else if digV b.toNat < 0 then (0, 0, 80) else (16 * digV a.toNat + digV b.toNat, 4, 0)
def plainV (c : Int) : Option Int := if c = 97 then some 7 else if c = 102 then some 12 else if c = 116 then some 9 else if c = 110 then some 10 else if c = 114 then some 13 else if c = 118 then some 11 else none
def letB (c : Int) : Bool := decide (97 ≤ c ∧ c ≤ 122 ∨ 65 ≤ c ∧ c ≤ 90)
/-- An escape of a number. -/
def escV : List UInt8 → Int × Int × Int
  | [] => (0, 0, 3)
  | [c] => if (c.toNat : Int) = 92 then (0, 0, 82) else (0, 0, 3)
  | c :: d :: t => if (c.toNat : Int) = 92 then (match plainV d.toNat with
      | some v => (v, 2, 0)
      | none => if (d.toNat : Int) = 120 then (if t.head? = some 123 then hexLongV t.tail 3 0 else hexShortV t) else if (d.toNat : Int) < 33 ∨ (d.toNat : Int) > 126 ∨ letB d.toNat = true ∨ 48 ≤ (d.toNat : Int) ∧ (d.toNat : Int) ≤ 57 then (0, 0, 80) else (d.toNat, 2, 0))
    else (0, 0, 3)
theorem long_ev (s : List UInt8) : ∀ (l : List UInt8) (i : Nat) (r : Int), s.drop i = l → 3 ≤ i → i ≤ 9 → 0 ≤ r → r < 16 ^ (i - 3) → s.length ≤ 1000000 → Ev (fun k => bracket_long.l0 k ⟨⟨s⟩⟩ r i) (hexLongV l i r)
  | [], i, r, h, h3, h9, h0, h1, hs => by
    have : s.length ≤ i := List.drop_eq_nil_iff.1 h
    refine Ev.step (fun k => ?_) (Ev.now _)
    rw [bracket_long.l0, sz, if_neg (by omega)]
    rfl
  | c :: t, i, r, h, h3, h9, h0, h1, hs => by
    obtain ⟨hb, hi, ht⟩ := bt_drop h
    have hc := u8_in c
    have hd := digV_in c.toNat
    have hr : r < 16777216 := Int.lt_of_lt_of_le h1 (by
      have : i - 3 = 0 ∨ i - 3 = 1 ∨ i - 3 = 2 ∨ i - 3 = 3 ∨ i - 3 = 4 ∨ i - 3 = 5 ∨ i - 3 = 6 := by omega
      rcases this with e | e | e | e | e | e | e <;> rw [e] <;> decide)
    have hj : ∀ b : Bool, b = decide ((c.toNat : Int) = 125 ∧ 3 < i ∧ r ≤ 1114111) → Ev (fun k => bracket_long.j1 k ⟨⟨s⟩⟩ r i (digV c.toNat) b) (hexLongV (c :: t) i r) := by
      intro b hb2
      unfold hexLongV
      by_cases g : (c.toNat : Int) = 125 ∧ 3 < i ∧ r ≤ 1114111
      · rw [if_pos g]
        rw [decide_eq_true g] at hb2
        subst hb2
        refine Ev.step (fun k => ?_) (Ev.now _)
        rw [bracket_long.j1, if_pos rfl, wr (y := (i : Int) + 1) rfl (by omega) (by omega)]
      · rw [if_neg g]
        rw [decide_eq_false g] at hb2
        subst hb2
        by_cases e1 : digV c.toNat < 0
        · rw [if_pos (.inl e1)]
          refine Ev.step (fun k => ?_) (Ev.now _)
          rw [bracket_long.j1, if_neg (by decide), if_pos e1]
        · by_cases e2 : i = 9
          · rw [if_pos (.inr e2)]
            refine Ev.step (fun k => ?_) (Ev.now _)
            rw [bracket_long.j1, if_neg (by decide), if_neg e1, wr (y := (i : Int) - 3) rfl (by omega) (by omega), if_pos (by omega)]
          · rw [if_neg (fun h => h.elim e1 e2)]
            refine Ev.step (fun k => ?_) (long_ev s t (i + 1) (16 * r + digV c.toNat) ht (by omega) (by omega) (by omega) ?_ hs)
            · rw [bracket_long.j1, if_neg (by decide), if_neg e1, wr (y := (i : Int) - 3) rfl (by omega) (by omega), if_neg (by omega), wr (y := 16 * r) rfl (by omega) (by omega), wr (y := 16 * r + digV c.toNat) rfl (by omega) (by omega), wr (y := ((i + 1 : Nat) : Int)) (by omega) (by omega) (by omega)]
            · rw [show i + 1 - 3 = (i - 3) + 1 by omega, Int.pow_succ]
              omega
    obtain ⟨K, hK⟩ := hj _ rfl
    refine ⟨K + 3, fun k hk => ?_⟩
    obtain ⟨m, rfl⟩ : ∃ m, k = m + 2 + 1 := ⟨k - 3, by omega⟩
    have h2 : bracket_long.j1 (m + 2) ⟨⟨s⟩⟩ r i (digV c.toNat) _ = _ := hK (m + 2) (by omega)
    show bracket_long.l0 (m + 2 + 1) _ _ _ = _
    rw [bracket_long.l0, sz, if_pos (by omega), if_pos (by omega), hb, digit_f _ hc.1 hc.2, Option.bind_some, ← h2]
    by_cases g1 : (c.toNat : Int) = 125
    · by_cases g2 : 3 < i
      · rw [if_pos g1, if_pos (by omega), show decide ((c.toNat : Int) = 125 ∧ 3 < i ∧ r ≤ 1114111) = decide (r ≤ 1114111) from by rw [Bool.eq_iff_iff]; simp only [decide_eq_true_eq]; exact ⟨fun h => h.2.2, fun h => ⟨g1, g2, h⟩⟩]
      · rw [if_pos g1, if_neg (by omega), decide_eq_false (fun h : (c.toNat : Int) = 125 ∧ 3 < i ∧ r ≤ 1114111 => g2 h.2.1)]
    · rw [if_neg g1, decide_eq_false (fun h : (c.toNat : Int) = 125 ∧ 3 < i ∧ r ≤ 1114111 => g1 h.1)]
theorem short_ev (s : List UInt8) (h2 : 2 ≤ s.length) (hs : s.length ≤ 1000000) : Ev (fun k => bracket_short.f k ⟨⟨s⟩⟩) (hexShortV (s.drop 2)) := by
  refine ⟨6, fun k hk => ?_⟩
  obtain ⟨m, rfl⟩ : ∃ m, k = m + 2 + 1 + 1 + 1 + 1 := ⟨k - 6, by omega⟩
  show bracket_short.f (m + 2 + 1 + 1 + 1 + 1) _ = _
  unfold bracket_short.f
  have z := sz s
  rw [bracket_short.l0, if_pos (by omega), z]
  cases h : s.drop 2 with
  | nil =>
    have : s.length ≤ 2 := List.drop_eq_nil_iff.1 h
    rw [if_pos (by omega)]
    rfl
  | cons a t =>
    obtain ⟨hb, hi, ht⟩ := bt_drop h
    have ha := u8_in a
    have hd := digV_in a.toNat
    rw [if_neg (by omega), if_pos (by omega), if_pos (by omega), show (2 : Int) = ((2 : Nat) : Int) from rfl, hb, digit_f _ ha.1 ha.2, Option.bind_some]
    by_cases e : digV a.toNat < 0
    · rw [if_pos e]
      cases t with
      | nil => simp only [hexShortV]; rw [if_pos e]
      | cons b u => simp only [hexShortV]; rw [if_pos e]
    · rw [if_neg e, show wrap64 (wrap64 (16 * 0) + digV a.toNat) = digV a.toNat from by rw [wr (x := 16 * 0) (y := 0) rfl (by omega) (by omega)]; exact wr (by omega) (by omega) (by omega), wr (x := ((2 : Nat) : Int) + 1) (y := 3) rfl (by omega) (by omega)]
      rw [bracket_short.l0, if_pos (by omega), z]
      cases t with
      | nil =>
        have : s.length ≤ 3 := List.drop_eq_nil_iff.1 ht
        rw [if_pos (by omega)]
        simp only [hexShortV]; rw [if_neg e]
      | cons b u =>
        obtain ⟨hb2, hi2, ht2⟩ := bt_drop ht
        have hb' := u8_in b
        have hd' := digV_in b.toNat
        rw [if_neg (by omega), if_pos (by omega), if_pos (by omega), show (3 : Int) = ((2 + 1 : Nat) : Int) from rfl, hb2, digit_f _ hb'.1 hb'.2, Option.bind_some]
        by_cases e2 : digV b.toNat < 0
        · rw [if_pos e2]
          simp only [hexShortV]; rw [if_neg e, if_pos e2]
        · rw [if_neg e2, wr (y := 16 * digV a.toNat) rfl (by omega) (by omega), wr (y := 16 * digV a.toNat + digV b.toNat) rfl (by omega) (by omega), wr (x := ((2 + 1 : Nat) : Int) + 1) (y := 4) rfl (by omega) (by omega)]
          rw [bracket_short.l0, if_neg (by omega)]
          simp only [hexShortV]; rw [if_neg e, if_neg e2]
theorem letter_f {c : Int} : bracket_letter.f c = some (letB c) := by
  unfold bracket_letter.f letB
  by_cases a : 97 ≤ c
  · by_cases b : c ≤ 122
    · rw [if_pos a, if_pos b, decide_eq_true (.inl ⟨a, b⟩)]
    · rw [if_pos a, if_neg b, if_pos (by omega), decide_eq_false (by omega), decide_eq_false (by omega)]
  · rw [if_neg a]
    by_cases d : 65 ≤ c
    · by_cases e : c ≤ 90
      · rw [if_pos d, decide_eq_true e, decide_eq_true (.inr ⟨d, e⟩)]
      · rw [if_pos d, decide_eq_false e, decide_eq_false (by omega)]
    · rw [if_neg d, decide_eq_false (by omega)]
theorem plain_mem {c v : Int} (h : plainV c = some v) : c ∈ numLetters ∧ numPlain.getD (numLetters.idxOf c) 0 = v := by
  unfold plainV at h
  repeat' split at h
  all_goals first
    | (cases h; done)
    | (obtain rfl := Option.some.inj h; subst_vars; exact ⟨by decide, by decide⟩)
theorem plain_not {c : Int} (h : plainV c = none) : c ∉ numLetters := by
  unfold plainV at h
  repeat' split at h
  all_goals first
    | (cases h; done)
    | (simp [numLetters]; omega)
theorem ev_const {α : Type} {g : Nat → Option α} {r : α} (h : ∀ k, g k = some r) : Ev g r := ⟨0, fun k _ => h k⟩
theorem u8_eq {c : UInt8} {n : Nat} (h : (c.toNat : Int) = (n : Int)) (hn : n < 256) : c = n.toUInt8 := by
  apply UInt8.toNat_inj.1
  rw [show c.toNat = n by omega]
  simp
  omega
/-- The program's answer for an escape of a number. -/
theorem num_ev (s : List UInt8) (hs : s.length ≤ 1000000) : Ev (fun k => bracket_Number.f k ⟨⟨s⟩⟩) (escV s) := by
  have z := sz s
  match s, z, hs with
  | [], _, _ => exact ev_const fun k => by unfold bracket_Number.f; rw [tl, if_pos rfl]; rfl
  | c :: t, z, hs =>
    have hb : bt ⟨⟨c :: t⟩⟩ 0 = (c.toNat : Int) := (bt_drop (l := c :: t) (i := 0) rfl).1
    have hc := u8_in c
    by_cases e : (c.toNat : Int) = 92
    · cases t with
      | nil => exact ev_const fun k => by unfold bracket_Number.f; rw [tl, if_neg (by simp), hb, if_pos e, z, if_pos (by simp)]; simp only [escV]; rw [if_pos e]
      | cons d u =>
        have hd := u8_in d
        have hb1 : bt ⟨⟨c :: d :: u⟩⟩ 1 = (d.toNat : Int) := (bt_drop (l := c :: d :: u) (i := 1) rfl).1
        have h0 : ∀ k, bracket_Number.f k ⟨⟨c :: d :: u⟩⟩ = if (d.toNat : Int) ∈ numLetters then some (numPlain.getD (numLetters.idxOf (d.toNat : Int)) 0, 2, 0) else if (d.toNat : Int) = 120 then (if 2 < ((ByteArray.mk ⟨c :: d :: u⟩).size : Int) ∧ bt ⟨⟨c :: d :: u⟩⟩ 2 = 123 then bracket_long.f k ⟨⟨c :: d :: u⟩⟩ else bracket_short.f k ⟨⟨c :: d :: u⟩⟩)
            else if (d.toNat : Int) < 33 ∨ (d.toNat : Int) > 126 then some (0, 0, 80) else (bracket_letter.f (d.toNat : Int)).bind fun t => if t = true ∨ 48 ≤ (d.toNat : Int) ∧ (d.toNat : Int) ≤ 57 then some (0, 0, 80) else some ((d.toNat : Int), 2, 0) := fun k => by
          unfold bracket_Number.f
          rw [tl, if_neg (by simp), hb, if_pos e, if_neg (by rw [z]; simp only [List.length_cons]; omega), if_pos (by rw [z]; simp only [List.length_cons]; omega), hb1]
        simp only [escV]
        rw [if_pos e]
        cases hp : plainV (d.toNat : Int) with
        | some v =>
          obtain ⟨h1, h2⟩ := plain_mem hp
          exact ev_const fun k => by rw [h0, if_pos h1, h2]
        | none =>
          have h1 := plain_not hp
          by_cases e2 : (d.toNat : Int) = 120
          · simp only [if_pos e2]
            cases u with
            | nil => exact Ev.congr (fun k => by rw [h0, if_neg h1, if_pos e2, if_neg (by rw [z]; simp)]) (short_ev (c :: d :: []) (by simp) hs)
            | cons f v =>
              have hb2 : bt ⟨⟨c :: d :: f :: v⟩⟩ 2 = (f.toNat : Int) := (bt_drop (l := c :: d :: f :: v) (i := 2) rfl).1
              by_cases e3 : (f.toNat : Int) = 123
              · have hf : f = 123 := u8_eq (n := 123) e3 (by omega)
                rw [if_pos (by rw [hf]; rfl)]
                exact Ev.congr (fun k => by rw [h0, if_neg h1, if_pos e2, if_pos ⟨by rw [z]; simp only [List.length_cons]; omega, by rw [hb2]; exact e3⟩]; rfl) (long_ev (c :: d :: f :: v) v 3 0 rfl (by omega) (by omega) (by omega) (by decide) hs)
              · rw [if_neg (by simp; intro h; subst h; exact e3 rfl)]
                exact Ev.congr (fun k => by rw [h0, if_neg h1, if_pos e2, if_neg (fun h => e3 (hb2 ▸ h.2))]) (short_ev (c :: d :: f :: v) (by simp) hs)
          · simp only [if_neg e2]
            refine ev_const fun k => ?_
            rw [h0, if_neg h1, if_neg e2]
            by_cases e3 : (d.toNat : Int) < 33
            · rw [if_pos (.inl e3), if_pos (.inl e3)]
            by_cases e4 : (d.toNat : Int) > 126
            · rw [if_pos (.inr e4), if_pos (.inr (.inl e4))]
            rw [if_neg (by omega), letter_f, Option.bind_some]
            by_cases e5 : letB d.toNat = true ∨ 48 ≤ (d.toNat : Int) ∧ (d.toNat : Int) ≤ 57
            · rw [if_pos e5, if_pos (.inr (.inr e5))]
            · rw [if_neg e5, if_neg (fun h => h.elim e3 (fun h => h.elim e4 e5))]
    · refine ev_const fun k => ?_
      unfold bracket_Number.f
      rw [tl, if_neg (by simp), hb, if_neg e]
      cases t with
      | nil => simp only [escV]; rw [if_neg e]
      | cons d u => simp only [escV]; rw [if_neg e]
theorem not_l0 (s : List (Int × Int)) (hs : ∀ x ∈ s, 0 ≤ x.1 ∧ x.1 ≤ x.2 ∧ x.2 ≤ 1114111) (hn : s.length ≤ 900000) (d : Nat) : ∀ (i : Nat) (p : List (Int × Int)) (f : Int), i ≤ s.length → s.length - i = d → p.length + d ≤ 900000 → 0 ≤ f → f ≤ 1114112 →
    Ev (fun k => ranges_Not.l0 k (p.map toRg) f (s.map toRg) (s.length : Int) i) ((p ++ notG f (s.drop i)).map toRg) := by
  induction d with
  | zero =>
    intro i p f hi hd hp h0 h1
    have e : i = s.length := by omega
    subst e
    refine Ev.step (fun k => ?_) (Ev.now _)
    simp only [ranges_Not.l0]
    rw [if_neg (by omega), List.drop_of_length_le (Nat.le_refl _)]
    by_cases hf : f ≤ 1114111
    · rw [if_pos hf, if_pos (by simp; omega), notG, if_pos hf]
      simp [toRg]
    · rw [if_neg hf, notG, if_neg hf, List.append_nil]
  | succ d ih =>
    intro i p f hi hd hp h0 h1
    have hlt : i < s.length := by omega
    have hx := hs _ (List.getElem_mem hlt)
    have hstep : ∀ k, ranges_Not.l0 (k + 1) (p.map toRg) f (s.map toRg) (s.length : Int) i = if s[i].1 > f then ranges_Not.l0 k ((p ++ [(f, s[i].1 - 1)]).map toRg) (s[i].2 + 1) (s.map toRg) (s.length : Int) ((i + 1 : Nat) : Int) else ranges_Not.l0 k (p.map toRg) (s[i].2 + 1) (s.map toRg) (s.length : Int) ((i + 1 : Nat) : Int) := by
      intro k
      simp only [ranges_Not.l0]
      rw [if_pos (by omega), if_pos (by omega), if_pos (by simp; omega), rd_rg s i hlt]
      rw [show (toRg s[i]).f0 = s[i].1 from rfl, show (toRg s[i]).f1 = s[i].2 from rfl, wrap_rg (x := s[i].1 - 1) (by omega) (by omega), wrap_rg (x := s[i].2 + 1) (by omega) (by omega), wrap_rg (x := (i : Int) + 1) (by omega) (by omega), show (i : Int) + 1 = ((i + 1 : Nat) : Int) by omega]
      rw [if_pos (c := (List.map toRg p).length < 8796093022208) (by simp; omega)]
      simp [toRg]
    rw [List.drop_eq_getElem_cons hlt, notG]
    by_cases h : s[i].1 > f
    · rw [if_pos h]
      have := ih (i + 1) (p ++ [(f, s[i].1 - 1)]) (s[i].2 + 1) (by omega) (by omega) (by simp; omega) (by omega) (by omega)
      rw [List.append_assoc] at this
      exact Ev.step (fun k => by rw [hstep k, if_pos h]) this
    · rw [if_neg h]
      exact Ev.step (fun k => by rw [hstep k, if_neg h]) (ih (i + 1) p (s[i].2 + 1) (by omega) (by omega) (by omega) (by omega) (by omega))
theorem not_ev (l : List S36) (hn : l.length ≤ 900000) : Ev (fun k => ranges_Not.f k l) ((notL (l.map ofRg)).map toRg) := by
  have hl := normL_len (l.map ofRg)
  rw [List.length_map] at hl
  have hN := normL_nrm (l.map ofRg)
  have := not_l0 (normL (l.map ofRg)) (fun x hx => hN.inr x hx) (by omega) _ 0 [] 0 (Nat.zero_le _) rfl (by simp; omega) (by omega) (by omega)
  unfold ranges_Not.f
  refine Ev.bind (norm_ev l hn) ?_
  simpa [notL] using this
theorem same_l0 (s : List S36) (hn : s.length ≤ 2000000) (d : Nat) : ∀ i : Nat, i ≤ s.length → s.length - i = d → Ev (fun k => burinbook_SameRanges.l0 k s s true i) true := by
  induction d with
  | zero =>
    intro i hi hd
    refine Ev.step (fun k => ?_) (Ev.now _)
    simp only [burinbook_SameRanges.l0]
    rw [if_pos trivial, if_neg (by omega)]
  | succ d ih =>
    intro i hi hd
    refine Ev.step (fun k => ?_) (ih (i + 1) (by omega) (by omega))
    simp only [burinbook_SameRanges.l0]
    rw [if_pos trivial, if_pos (by omega), if_pos (by omega), if_pos (by omega), wrap_rg (x := (i : Int) + 1) (by omega) (by omega), show (i : Int) + 1 = ((i + 1 : Nat) : Int) by omega]
    simp
theorem same_ev (s : List S36) (hn : s.length ≤ 2000000) : Ev (fun k => burinbook_SameRanges.f k s s) true := by
  have := same_l0 s hn _ 0 (Nat.zero_le _) rfl
  unfold burinbook_SameRanges.f
  simpa using this
/-- Of a text's first byte. -/
theorem ex01 (c : UInt8) (t : List UInt8) : ((ByteArray.mk ⟨c :: t⟩).extract 0 1).toList = [c] := by
  rw [ByteArray.toList_eq, ByteArray.data_extract]
  simp
theorem ex1n (c : UInt8) (t : List UInt8) : (ByteArray.mk ⟨c :: t⟩).extract 1 (t.length + 1) = ⟨⟨t⟩⟩ := by
  apply ByteArray.ext
  rw [ByteArray.data_extract]
  simp
theorem sz_cons (c : UInt8) (t : List UInt8) : (ByteArray.mk ⟨c :: t⟩).size = t.length + 1 := by
  simp [ByteArray.size]
theorem caret_app (s : ByteArray) : (⟨#[94]⟩ : ByteArray) ++ s = ⟨⟨94 :: s.data.toList⟩⟩ := by
  apply ByteArray.ext
  rw [ByteArray.data_append]
  apply Array.ext'
  simp
theorem prefix_cons (c : UInt8) (t : List UInt8) : stringslite_HasPrefix.f ⟨⟨c :: t⟩⟩ (⟨#[94]⟩ : ByteArray) = some (c == 94) := by
  unfold stringslite_HasPrefix.f
  have h1 : (⟨#[94]⟩ : ByteArray).size = 1 := rfl
  have h2 : (⟨#[94]⟩ : ByteArray).toList = [94] := by rw [ByteArray.toList_eq]
  rw [sz_cons, h1, if_pos (by omega), if_pos (by omega), if_pos (by omega), h2, show (((1 : Nat) : Int)).toNat = 1 from rfl, ex01]
  simp
theorem cut_cons (c : UInt8) (t : List UInt8) : strings_CutPrefix.f ⟨⟨c :: t⟩⟩ (⟨#[94]⟩ : ByteArray) = some (if c = 94 then ((⟨⟨t⟩⟩ : ByteArray), true) else (⟨⟨c :: t⟩⟩, false)) := by
  unfold strings_CutPrefix.f stringslite_CutPrefix.f
  rw [prefix_cons, Option.bind_some]
  have h1 : (⟨#[94]⟩ : ByteArray).size = 1 := rfl
  by_cases h : c = 94
  · rw [if_pos (by simpa using h), h1, if_pos (by omega), sz_cons, if_pos (by omega), show (((1 : Nat) : Int)).toNat = 1 from rfl, ex1n, if_pos h]
    rfl
  · rw [if_neg (by simpa using h), if_neg h]
    rfl
theorem cut_nil : strings_CutPrefix.f ⟨⟨[]⟩⟩ (⟨#[94]⟩ : ByteArray) = some ((⟨⟨[]⟩⟩ : ByteArray), false) := by
  unfold strings_CutPrefix.f stringslite_CutPrefix.f stringslite_HasPrefix.f
  rw [if_neg (by decide)]
  rfl
/-- Whether a text begins with the sign for what a set lacks. -/
def caret (s : ByteArray) : Bool := s.data.toList.head? == some 94
theorem cut_plain {s : ByteArray} (h : caret s = false) : strings_CutPrefix.f s (⟨#[94]⟩ : ByteArray) = some (s, false) := by
  obtain ⟨⟨l⟩⟩ := s
  cases l with
  | nil => exact cut_nil
  | cons c t =>
    rw [cut_cons, if_neg]
    intro e
    subst e
    simp [caret] at h
theorem cut_caret (s : ByteArray) : strings_CutPrefix.f ((⟨#[94]⟩ : ByteArray) ++ s) (⟨#[94]⟩ : ByteArray) = some (s, true) := by
  rw [caret_app, cut_cons, if_pos rfl]
theorem splitB_small (sep : ByteArray) (k : Nat) : ∀ s : ByteArray, ∀ x ∈ Lib.splitB sep 0 k s, x.size ≤ s.size := by
  induction k with
  | zero =>
    intro s x hx
    obtain rfl : x = s := by simpa [Lib.splitB] using hx
    exact Nat.le_refl _
  | succ k ih =>
    intro s x hx
    unfold Lib.splitB at hx
    split at hx
    · obtain rfl : x = s := by simpa using hx
      exact Nat.le_refl _
    · rcases List.mem_cons.1 hx with rfl | hx
      · rw [ByteArray.size_extract]; omega
      · have := ih _ x hx
        rw [ByteArray.size_extract] at this
        omega
theorem split_small {s : ByteArray} (h : s.size ≤ 990) : SmallPieces s ∧ splitN s ≤ 1000 := by
  have hle := Lib.countB_le ⟨#[32]⟩ (by decide) s.size s (Nat.le_refl _)
  refine ⟨⟨by omega, fun x hx => ?_⟩, by unfold splitN; omega⟩
  have := splitB_small ⟨#[32]⟩ _ s x hx
  omega
/-- A table of names: short ones, of which none begins with that sign. -/
def tabOk (l : List S105) : Bool := decide (0 < l.length) && l.all fun x => decide (x.f1.size ≤ 990) && !caret x.f0
theorem tab_good {l : List S105} (h : tabOk l = true) : goodNm (l.map ofNm) = true ∧ ∀ x ∈ l.map ofNm, caret x.1 = false := by
  unfold tabOk at h
  simp only [Bool.and_eq_true, decide_eq_true_eq, List.all_eq_true, Bool.not_eq_true'] at h
  refine ⟨?_, fun x hx => ?_⟩
  · unfold goodNm
    simp only [Bool.and_eq_true, decide_eq_true_eq, List.all_eq_true, List.length_map]
    refine ⟨h.1, fun x hx => ?_⟩
    obtain ⟨y, hy, rfl⟩ := List.mem_map.1 hx
    obtain ⟨h1, h2⟩ := split_small (s := (ofNm y).2) (h.2 y hy).1
    exact ⟨⟨h1.1, h1.2⟩, h2⟩
  · obtain ⟨y, hy, rfl⟩ := List.mem_map.1 hx
    exact (h.2 y hy).2
theorem find_ok {l : List S105} (h : tabOk l = true) (s : ByteArray) : class_find.f l s = some ((findV normL (l.map ofNm) s).1.map toRg, (findV normL (l.map ofNm) s).2) := by
  unfold class_find.f
  rw [if_pos (tab_good h).1]
theorem find_fact {l : List S105} (h : tabOk l = true) (s : ByteArray) : Nrm (findV normL (l.map ofNm) s).1 ∧ (findV normL (l.map ofNm) s).1.length ≤ 900000 ∧ ((findV normL (l.map ofNm) s).2 = 0 ∨ findV normL (l.map ofNm) s = ([], 70)) := by
  obtain ⟨_, hg⟩ := good_nm (tab_good h).1
  unfold findV
  cases hf : (l.map ofNm).find? (isNm s) with
  | none => exact ⟨Nrm.nil, by simp, Or.inr rfl⟩
  | some x => exact ⟨normL_nrm _, Nat.le_trans (normL_len _) (hg x (List.mem_of_find?_eq_some hf)).2.2, Or.inl rfl⟩
/-- What a name stands for with the sign ahead. -/
def lackV (l : List S105) (s : ByteArray) : List (Int × Int) × Int := if (findV normL (l.map ofNm) s).2 = 0 then (notL (findV normL (l.map ofNm) s).1, 0) else ([], 70)
theorem turned_plain {l : List S105} (h : tabOk l = true) {s : ByteArray} (hs : caret s = false) : Ev (fun k => class_turned.f k l s) ((findV normL (l.map ofNm) s).1.map toRg, (findV normL (l.map ofNm) s).2) := by
  refine ev_from 0 fun k _ => ?_
  unfold class_turned.f
  rw [cut_plain hs, Option.bind_some, find_ok h, Option.bind_some]
  dsimp only
  split <;> rfl
theorem turned_caret {l : List S105} (h : tabOk l = true) (s : ByteArray) : Ev (fun k => class_turned.f k l ((⟨#[94]⟩ : ByteArray) ++ s)) ((lackV l s).1.map toRg, (lackV l s).2) := by
  obtain ⟨hN, hl, h2⟩ := find_fact h s
  obtain ⟨K, hK⟩ := not_ev ((findV normL (l.map ofNm) s).1.map toRg) (by rw [List.length_map]; exact hl)
  refine ev_from K fun k hk => ?_
  unfold class_turned.f
  rw [cut_caret, Option.bind_some, find_ok h, Option.bind_some]
  dsimp only
  unfold lackV
  rcases h2 with h2 | h2
  · have hK' : ranges_Not.f k _ = _ := hK k hk
    rw [if_pos h2, if_pos h2, if_pos rfl, hK', Option.bind_some, map_forth, h2]
  · rw [h2]
    rfl
/-- Up to a byte, and what stands behind it. -/
def cutL (c : UInt8) : List UInt8 → List UInt8 × Option (List UInt8)
  | [] => ([], none)
  | b :: t => if b = c then ([], some t) else ((b :: (cutL c t).1), (cutL c t).2)
theorem cutL_spec (c : UInt8) : ∀ s : List UInt8, (Lib.indexByte s c = -1 ∧ cutL c s = (s, none)) ∨ ∃ i : Nat, Lib.indexByte s c = i ∧ cutL c s = (s.take i, some (s.drop (i + 1)))
  | [] => .inl ⟨rfl, rfl⟩
  | b :: t => by
    unfold Lib.indexByte cutL
    by_cases h : b = c
    · refine .inr ⟨0, ?_, ?_⟩
      · rw [if_pos (by simpa using h)]; rfl
      · rw [if_pos h]; rfl
    · rw [if_neg (by simpa using h), if_neg h]
      rcases cutL_spec c t with ⟨h1, h2⟩ | ⟨i, h1, h2⟩
      · refine .inl ⟨by rw [h1]; rfl, by rw [h2]⟩
      · refine .inr ⟨i + 1, ?_, by rw [h2]; rfl⟩
        rw [h1, if_neg (by rw [beq_iff_eq]; omega)]
        omega
/-- What a letter stands for. -/
def letV (c : Int) : List S36 × Int := (class_Letter.f 90 c).getD ([], 70)
def letOk (c : Int) : Bool := match class_Letter.f 90 c with
  | none => false
  | some a => (decide (a.2 = 0) || (decide (a.2 = 70) && a.1.isEmpty)) && decide (a.1.length ≤ 700)
set_option maxRecDepth 100000 in
theorem lets_ok : (List.range 256).all (fun n => letOk (n : Int)) = true := by decide +kernel
theorem let_ev {c : Int} (h0 : 0 ≤ c) (h1 : c ≤ 255) : Ev (fun k => class_Letter.f k c) (letV c) ∧ ((letV c).2 = 0 ∨ letV c = ([], 70)) ∧ (letV c).1.length ≤ 700 := by
  have h := List.all_eq_true.1 lets_ok c.toNat (List.mem_range.2 (by omega))
  rw [show ((c.toNat : Nat) : Int) = c by omega] at h
  unfold letOk at h
  unfold letV
  cases hc : class_Letter.f 90 c with
  | none => rw [hc] at h; cases h
  | some a =>
    rw [hc] at h
    simp only [Bool.and_eq_true, Bool.or_eq_true, decide_eq_true_eq, List.isEmpty_iff] at h
    obtain ⟨a1, a2⟩ := a
    refine ⟨Ev.of (fun k => class_Letter.mono _ k) hc, ?_, h.2⟩
    rcases h.1 with h | h
    · exact .inl h
    · exact .inr (Prod.ext h.2 h.1)
/-- What a name stands for, the sign for what it lacks ahead or not. -/
def turnV (l : List S105) (s : List UInt8) : List (Int × Int) × Int := if s.head? = some 94 then lackV l ⟨⟨s.tail⟩⟩ else findV normL (l.map ofNm) ⟨⟨s⟩⟩
theorem find_small {l : List S105} (h : tabOk l = true) (s : ByteArray) : (findV normL (l.map ofNm) s).1.length ≤ 1000 := by
  obtain ⟨_, hg⟩ := good_nm (tab_good h).1
  unfold findV
  cases hf : (l.map ofNm).find? (isNm s) with
  | none => simp
  | some x =>
    have h1 := (hg x (List.mem_of_find?_eq_some hf)).2.1
    have h2 := normL_len (piecesV x.2)
    have h3 : (piecesV x.2).length = splitN x.2 := by unfold piecesV; rw [List.length_map, split_len]
    dsimp only
    omega
theorem turn_ev {l : List S105} (h : tabOk l = true) (s : List UInt8) : Ev (fun k => class_turned.f k l ⟨⟨s⟩⟩) ((turnV l s).1.map toRg, (turnV l s).2) := by
  unfold turnV
  by_cases e : s.head? = some 94
  · rw [if_pos e]
    cases s with
    | nil => cases e
    | cons c t =>
      obtain rfl : c = 94 := by simpa using e
      have := turned_caret h ⟨⟨t⟩⟩
      rwa [caret_app] at this
  · rw [if_neg e]
    exact turned_plain h (by unfold caret; exact beq_eq_false_iff_ne.mpr e)
theorem turn_fact {l : List S105} (h : tabOk l = true) (s : List UInt8) : Nrm (turnV l s).1 ∧ (turnV l s).1.length ≤ 1001 ∧ ((turnV l s).2 = 0 ∨ turnV l s = ([], 70)) := by
  unfold turnV
  split
  · obtain ⟨h1, h2, h3⟩ := find_fact h ⟨⟨s.tail⟩⟩
    have h4 := find_small h ⟨⟨s.tail⟩⟩
    unfold lackV
    split
    · exact ⟨notL_nrm _, by have := notL_len (findV normL (l.map ofNm) ⟨⟨s.tail⟩⟩).1; dsimp only; omega, .inl rfl⟩
    · exact ⟨Nrm.nil, by simp, .inr rfl⟩
  · obtain ⟨h1, h2, h3⟩ := find_fact h ⟨⟨s⟩⟩
    exact ⟨h1, by have := find_small h ⟨⟨s⟩⟩; omega, h3⟩
def colTab : List S105 := (class_colons.f).getD []
def proTab : List S105 := (class_properties.f).getD []
theorem col_tab : class_colons.f = some colTab ∧ tabOk colTab = true := ⟨rfl, by decide +kernel⟩
theorem pro_tab : class_properties.f = some proTab ∧ tabOk proTab = true := ⟨rfl, by decide +kernel⟩
theorem col_ev (s : List UInt8) : Ev (fun k => class_Colon.f k ⟨⟨s⟩⟩) ((turnV colTab s).1.map toRg, (turnV colTab s).2) := by
  obtain ⟨K, hK⟩ := turn_ev col_tab.2 s
  exact ⟨K, fun k hk => by
    show class_Colon.f k _ = _
    unfold class_Colon.f
    rw [col_tab.1, Option.bind_some, show class_turned.f k colTab _ = _ from hK k hk]
    rfl⟩
theorem pro_ev (s : List UInt8) : Ev (fun k => class_Property.f k ⟨⟨s⟩⟩) ((turnV proTab s).1.map toRg, (turnV proTab s).2) := by
  obtain ⟨K, hK⟩ := turn_ev pro_tab.2 s
  exact ⟨K, fun k hk => by
    show class_Property.f k _ = _
    unfold class_Property.f
    rw [pro_tab.1, Option.bind_some, show class_turned.f k proTab _ = _ from hK k hk]
    rfl⟩
/-- A property: whether turned round, its name, the bytes it takes. -/
def proV (neg : Bool) (nm : List UInt8) (n : Int) : List S36 × Int × Int :=
  if (turnV proTab nm).2 = 0 then ((if neg then notL (turnV proTab nm).1 else (turnV proTab nm).1).map toRg, n, 0) else ([], 0, 70)
def propV (neg : Bool) : List UInt8 → List S36 × Int × Int
  | [] => ([], 0, 82)
  | d :: v => if (d.toNat : Int) = 123 then (match (cutL 125 v).2 with
      | none => ([], 0, 82)
      | some _ => proV neg (cutL 125 v).1 (((cutL 125 v).1.length : Int) + 4))
    else if letB d.toNat = true then proV neg [d] 3 else ([], 0, 70)
def isLet (c : Int) : Bool := decide (c = 100 ∨ c = 115 ∨ c = 119 ∨ c = 68 ∨ c = 83 ∨ c = 87)
/-- An escape of a set. -/
def setV : List UInt8 → List S36 × Int × Int
  | [] => ([], 0, 3)
  | [c] => if (c.toNat : Int) = 92 then ([], 0, 5) else ([], 0, 3)
  | c :: d :: t => if (c.toNat : Int) = 92 then (if isLet d.toNat = true then ((letV d.toNat).1, 2, (letV d.toNat).2) else if (d.toNat : Int) = 112 ∨ (d.toNat : Int) = 80 then propV (decide ((d.toNat : Int) = 80)) t else ([], 0, 5)) else ([], 0, 3)
theorem proj_ev (s : List UInt8) (d : UInt8) (neg : Bool) (hb : bt ⟨⟨s⟩⟩ 1 = (d.toNat : Int)) (h1 : 1 < s.length) (hd : neg = decide ((d.toNat : Int) = 80)) (nm : List UInt8) (n : Int) : Ev (fun k => bracket_property.j0 k ⟨⟨s⟩⟩ n ⟨⟨nm⟩⟩) (proV neg nm n) := by
  obtain ⟨K, hK⟩ := pro_ev nm
  obtain ⟨f1, f2, f3⟩ := turn_fact pro_tab.2 nm
  obtain ⟨K2, hK2⟩ := not_ev ((turnV proTab nm).1.map toRg) (by rw [List.length_map]; omega)
  refine ⟨K + K2 + 1, fun k hk => ?_⟩
  obtain ⟨m, rfl⟩ : ∃ m, k = m + 1 := ⟨k - 1, by omega⟩
  have q1 : class_Property.f m _ = _ := hK m (by omega)
  have q2 : ranges_Not.f m _ = _ := hK2 m (by omega)
  rw [map_forth] at q2
  show bracket_property.j0 (m + 1) _ _ _ = _
  rw [bracket_property.j0, q1, Option.bind_some]
  unfold proV
  rcases f3 with f3 | f3
  · rw [if_pos f3, if_pos f3, sz, if_pos (by omega), hb]
    by_cases e : (d.toNat : Int) = 80
    · rw [if_pos e, q2, Option.bind_some, hd, decide_eq_true e, if_pos rfl]
    · rw [if_neg e, hd, decide_eq_false e, if_neg (by decide)]
  · rw [f3]
    rfl
theorem ex_list (l : List UInt8) (a b : Nat) : (ByteArray.mk ⟨l⟩).extract a b = ⟨⟨(l.drop a).take (b - a)⟩⟩ := by
  apply ByteArray.ext
  rw [ByteArray.data_extract]
  apply Array.ext'
  rw [Array.toList_extract, List.extract_eq_take_drop]
theorem app_list (a b : List UInt8) : (ByteArray.mk ⟨a⟩) ++ (ByteArray.mk ⟨b⟩) = ⟨⟨a ++ b⟩⟩ := by
  apply ByteArray.ext
  rw [ByteArray.data_append]
  apply Array.ext'
  simp
theorem idx_cons {b c : UInt8} {l : List UInt8} (h : b ≠ c) : Lib.indexByte (b :: l) c = if Lib.indexByte l c = -1 then -1 else Lib.indexByte l c + 1 := by
  rw [Lib.indexByte, if_neg (by simpa using h)]
  by_cases e : Lib.indexByte l c = -1
  · rw [if_pos (by simpa using e), if_pos e]
  · rw [if_neg (by simpa using e), if_neg e]
theorem prop_ev (c d : UInt8) (t : List UInt8) (neg : Bool) (hn : neg = decide ((d.toNat : Int) = 80)) (hs : (c :: d :: t).length ≤ 1000000) (hc : c ≠ 125) (hd : d ≠ 125) : Ev (fun k => bracket_property.f k ⟨⟨c :: d :: t⟩⟩) (propV neg t) := by
  have z := sz (c :: d :: t)
  have hb1 : bt ⟨⟨c :: d :: t⟩⟩ 1 = (d.toNat : Int) := (bt_drop (l := c :: d :: t) (i := 1) rfl).1
  have hj := proj_ev (c :: d :: t) d neg hb1 (by simp) hn
  cases t with
  | nil => exact ev_const fun k => by unfold bracket_property.f; rw [z, if_pos (by rfl)]; rfl
  | cons f v =>
    have hb2 : bt ⟨⟨c :: d :: f :: v⟩⟩ 2 = (f.toNat : Int) := (bt_drop (l := c :: d :: f :: v) (i := 2) rfl).1
    have hl : ((c :: d :: f :: v).length : Int) = v.length + 3 := by simp only [List.length_cons]; omega
    have h0 : ∀ k, bracket_property.f k ⟨⟨c :: d :: f :: v⟩⟩ = if (f.toNat : Int) = 123 then (if Lib.indexByte (c :: d :: f :: v) 125 < 0 then some ([], 0, 82) else if 3 ≤ Lib.indexByte (c :: d :: f :: v) 125 then (if Lib.indexByte (c :: d :: f :: v) 125 ≤ ((c :: d :: f :: v).length : Int) then bracket_property.j0 k ⟨⟨c :: d :: f :: v⟩⟩ (wrap64 (Lib.indexByte (c :: d :: f :: v) 125 + 1)) ((ByteArray.mk ⟨c :: d :: f :: v⟩).extract 3 (Lib.indexByte (c :: d :: f :: v) 125).toNat) else none) else none)
        else if letB f.toNat = true then bracket_property.j0 k ⟨⟨c :: d :: f :: v⟩⟩ 3 ((ByteArray.mk ⟨c :: d :: f :: v⟩).extract 2 3) else some ([], 0, 70) := fun k => by
      unfold bracket_property.f
      rw [z, if_neg (by omega), if_pos (by omega), if_pos (by omega), if_pos (by omega), hb2, letter_f]
      rfl
    simp only [propV]
    by_cases e : (f.toNat : Int) = 123
    · rw [if_pos e]
      have hf : f = 123 := u8_eq (n := 123) e (by omega)
      have hix : Lib.indexByte (c :: d :: f :: v) 125 = if Lib.indexByte v 125 = -1 then -1 else Lib.indexByte v 125 + 3 := by
        subst hf
        rw [idx_cons hc, idx_cons hd, idx_cons (show (123 : UInt8) ≠ 125 by decide)]
        rcases cutL_spec 125 v with ⟨h1, _⟩ | ⟨i, h1, _⟩
        · rw [h1]; decide
        · rw [h1]
          repeat' split
          all_goals omega
      rcases cutL_spec 125 v with ⟨h1, h2⟩ | ⟨i, h1, h2⟩
      · rw [h2]
        rw [h1, if_pos rfl] at hix
        exact ev_const fun k => by rw [h0, if_pos e, hix, if_pos (by omega)]
      · rw [h2]
        rw [h1, if_neg (by omega)] at hix
        have hlt := index_lt v 125
        rw [h1] at hlt
        have hn := hj (v.take i) ((i : Int) + 4)
        dsimp only
        rw [show ((v.take i).length : Int) = i by rw [List.length_take]; omega]
        refine Ev.congr (fun k => ?_) hn
        rw [h0, if_pos e, hix, if_neg (by omega), if_pos (by omega), if_pos (by omega), wr (x := (i : Int) + 3 + 1) (y := (i : Int) + 4) (by omega) (by omega) (by omega), show ((i : Int) + 3).toNat = i + 3 by omega, ex_list]
        rw [show i + 3 - 3 = i by omega]
        rfl
    · rw [if_neg e]
      by_cases e2 : letB f.toNat = true
      · rw [if_pos e2]
        exact Ev.congr (fun k => by rw [h0, if_neg e, if_pos e2, ex_list]; rfl) (hj [f] 3)
      · rw [if_neg e2]
        exact ev_const fun k => by rw [h0, if_neg e, if_neg e2]
/-- The program's answer for an escape of a set. -/
theorem set_ev (s : List UInt8) (hs : s.length ≤ 1000000) : Ev (fun k => bracket_Set.f k ⟨⟨s⟩⟩) (setV s) := by
  have z := sz s
  have bad : ∀ k, bracket_Set.j0 (k + 1) ⟨⟨s⟩⟩ true = some ([], 0, 3) := fun k => by rw [bracket_Set.j0, if_pos rfl]
  match s, z, hs, bad with
  | [], z, _, bad => exact Ev.congr (f := fun k => bracket_Set.j0 k ⟨⟨[]⟩⟩ true) (fun k => by unfold bracket_Set.f; rw [tl]; rfl) (Ev.step bad (Ev.now _))
  | c :: t, z, hs, bad =>
    have hb : bt ⟨⟨c :: t⟩⟩ 0 = (c.toNat : Int) := (bt_drop (l := c :: t) (i := 0) rfl).1
    have h00 : ∀ k, bracket_Set.f k ⟨⟨c :: t⟩⟩ = bracket_Set.j0 k ⟨⟨c :: t⟩⟩ ((c.toNat : Int) != 92) := fun k => by
      unfold bracket_Set.f
      rw [tl, if_neg (by simp), z, if_pos (by simp only [List.length_cons]; omega), hb]
    refine Ev.congr h00 ?_
    by_cases e : (c.toNat : Int) = 92
    · rw [show ((c.toNat : Int) != 92) = false by rw [e]; rfl]
      cases t with
      | nil => exact Ev.step (f := fun _ => some ([], 0, 5)) (fun k => by rw [bracket_Set.j0, if_neg (by decide), z, if_pos (by simp)]) (by simp only [setV]; rw [if_pos e]; exact Ev.now _)
      | cons d u =>
        have hd := u8_in d
        have hb1 : bt ⟨⟨c :: d :: u⟩⟩ 1 = (d.toNat : Int) := (bt_drop (l := c :: d :: u) (i := 1) rfl).1
        have hl : 1 < ((c :: d :: u).length : Int) := by simp only [List.length_cons]; omega
        obtain ⟨hlet, _, _⟩ := let_ev hd.1 hd.2
        have hle : Ev (fun k => (class_Letter.f k (d.toNat : Int)).bind fun bt => some (bt.1, (2 : Int), bt.2)) ((letV d.toNat).1, 2, (letV d.toNat).2) := Ev.bind hlet (Ev.now _)
        have j1t : Ev (fun k => bracket_Set.j1 k ⟨⟨c :: d :: u⟩⟩ d.toNat true) ((letV d.toNat).1, 2, (letV d.toNat).2) := Ev.step (fun k => by rw [bracket_Set.j1, if_pos rfl, z, if_pos hl, hb1]) hle
        have j2t : Ev (fun k => bracket_Set.j2 k ⟨⟨c :: d :: u⟩⟩ d.toNat true) ((letV d.toNat).1, 2, (letV d.toNat).2) := Ev.step (fun k => by rw [bracket_Set.j2, if_pos rfl, z, if_pos hl, hb1]) hle
        have h1 : ∀ k, bracket_Set.j0 (k + 1) ⟨⟨c :: d :: u⟩⟩ false = bracket_Set.j1 k ⟨⟨c :: d :: u⟩⟩ d.toNat (decide ((d.toNat : Int) = 100 ∨ (d.toNat : Int) = 115 ∨ (d.toNat : Int) = 119)) := fun k => by
          rw [bracket_Set.j0, if_neg (by decide), z, if_neg (by omega), if_pos hl, hb1]
          by_cases g1 : (d.toNat : Int) = 100
          · rw [if_pos g1, g1]; rfl
          by_cases g2 : (d.toNat : Int) = 115
          · rw [if_neg g1, if_pos g2, g2]; rfl
          rw [if_neg g1, if_neg g2]
          congr 1
          rw [Bool.eq_iff_iff]
          simp only [beq_iff_eq, decide_eq_true_eq]
          omega
        have h2 : ∀ k, bracket_Set.j1 (k + 1) ⟨⟨c :: d :: u⟩⟩ d.toNat false = bracket_Set.j2 k ⟨⟨c :: d :: u⟩⟩ d.toNat (decide ((d.toNat : Int) = 68 ∨ (d.toNat : Int) = 83 ∨ (d.toNat : Int) = 87)) := fun k => by
          rw [bracket_Set.j1, if_neg (by decide)]
          by_cases g1 : (d.toNat : Int) = 68
          · rw [if_pos g1, g1]; rfl
          by_cases g2 : (d.toNat : Int) = 83
          · rw [if_neg g1, if_pos g2, g2]; rfl
          rw [if_neg g1, if_neg g2]
          congr 1
          rw [Bool.eq_iff_iff]
          simp only [beq_iff_eq, decide_eq_true_eq]
          omega
        have h3 : ∀ k, bracket_Set.j2 (k + 1) ⟨⟨c :: d :: u⟩⟩ d.toNat false = bracket_Set.j3 k ⟨⟨c :: d :: u⟩⟩ (decide ((d.toNat : Int) = 112 ∨ (d.toNat : Int) = 80)) := fun k => by
          rw [bracket_Set.j2, if_neg (by decide)]
          by_cases g1 : (d.toNat : Int) = 112
          · rw [if_pos g1, g1]; rfl
          rw [if_neg g1]
          congr 1
          rw [Bool.eq_iff_iff]
          simp only [beq_iff_eq, decide_eq_true_eq]
          omega
        simp only [setV]
        rw [if_pos e]
        refine Ev.step h1 ?_
        by_cases a1 : (d.toNat : Int) = 100 ∨ (d.toNat : Int) = 115 ∨ (d.toNat : Int) = 119
        · rw [decide_eq_true a1, if_pos (show isLet d.toNat = true from decide_eq_true (by omega))]
          exact j1t
        rw [decide_eq_false a1]
        refine Ev.step h2 ?_
        by_cases a2 : (d.toNat : Int) = 68 ∨ (d.toNat : Int) = 83 ∨ (d.toNat : Int) = 87
        · rw [decide_eq_true a2, if_pos (show isLet d.toNat = true from decide_eq_true (by omega))]
          exact j2t
        rw [decide_eq_false a2, if_neg (show ¬ isLet d.toNat = true from by unfold isLet; rw [decide_eq_true_eq]; omega)]
        refine Ev.step h3 ?_
        by_cases a3 : (d.toNat : Int) = 112 ∨ (d.toNat : Int) = 80
        · rw [decide_eq_true a3, if_pos a3]
          have hne : ∀ x : UInt8, (x.toNat : Int) ≠ 125 → x ≠ 125 := fun x hx h => hx (by rw [h]; rfl)
          refine Ev.step (f := fun k => (bracket_property.f k ⟨⟨c :: d :: u⟩⟩).bind fun bt => some (bt.1, bt.2.1, bt.2.2)) (fun k => by rw [bracket_Set.j3, if_pos rfl]) (Ev.bind (prop_ev c d u _ rfl hs (hne c (by omega)) (hne d (by omega))) (Ev.now _))
        · rw [decide_eq_false a3, if_neg a3]
          exact Ev.step (fun k => by rw [bracket_Set.j3, if_neg (by decide)]) (Ev.now _)
    · rw [show ((c.toNat : Int) != 92) = true from bne_iff_ne.mpr e]
      cases t with
      | nil => simp only [setV]; rw [if_neg e]; exact Ev.step bad (Ev.now _)
      | cons d u => simp only [setV]; rw [if_neg e]; exact Ev.step bad (Ev.now _)
theorem pro_small (neg : Bool) (nm : List UInt8) (n : Int) : (proV neg nm n).1.length ≤ 1002 := by
  obtain ⟨_, h, _⟩ := turn_fact pro_tab.2 nm
  have h2 := notL_len (turnV proTab nm).1
  unfold proV
  split
  · rw [List.length_map]
    split <;> omega
  · simp
theorem prop_small (neg : Bool) (t : List UInt8) : (propV neg t).1.length ≤ 1002 := by
  cases t with
  | nil => simp [propV]
  | cons d v =>
    simp only [propV]
    split
    · split
      · simp
      · exact pro_small _ _ _
    · split
      · exact pro_small _ _ _
      · simp
theorem set_small (s : List UInt8) : (setV s).1.length ≤ 1002 := by
  match s with
  | [] => simp [setV]
  | [c] => simp only [setV]; split <;> simp
  | c :: d :: t =>
    have hd := u8_in d
    obtain ⟨_, _, h⟩ := let_ev hd.1 hd.2
    simp only [setV]
    split
    · split
      · dsimp only; omega
      · split
        · exact prop_small _ _
        · simp
    · simp
theorem wrap_to {x y : Int} (e : x = y) (h0 : -9223372036854775808 ≤ y) (h1 : y ≤ 9223372036854775807) : wrap64 x = y := by
  subst e
  exact wrap_in h0 h1
theorem width_f (k : Nat) (r : Int) : utf_Width.f (k + 1) r = some (widthF r : Int) := by
  simp only [utf_Width.f, utf_Width.j0, widthF]
  by_cases h1 : r < 0
  · simp [h1]
  · by_cases h2 : r > 1114111
    · simp [h1, h2]
    · by_cases h3 : r ≥ 55296
      · by_cases h4 : r ≤ 57343
        · simp [h1, h2, h3, h4]
        · have h5 : ¬ r ≤ 127 := by omega
          have h6 : ¬ r ≤ 2047 := by omega
          by_cases h7 : r ≤ 65535 <;> simp [h1, h2, h3, h4, h5, h6, h7]
      · have h4 : ¬ (r < 0 ∨ r > 1114111 ∨ (55296 ≤ r ∧ r ≤ 57343)) := by omega
        rw [if_neg h1, if_neg h2, if_neg h3, if_neg h4, if_neg (by decide)]
        by_cases h5 : r ≤ 127
        · simp [h5]
        · by_cases h6 : r ≤ 2047
          · simp [h5, h6]
          · by_cases h7 : r ≤ 65535 <;> simp [h5, h6, h7]
theorem long_fv (k : Nat) (b : Int) : utf_long.f (k + 2) b = some (longV b : Int) := by
  simp only [utf_long.f, utf_long.j0, utf_long.j1, longV]
  by_cases h1 : b ≤ 127
  · simp [h1]
  · by_cases h2 : b ≥ 194
    · by_cases h3 : b < 224
      · simp [h1, h2, h3]
      · have g : ¬ (194 ≤ b ∧ b < 224) := by omega
        have h4 : b ≥ 224 := by omega
        rw [if_neg h1, if_pos h2, if_neg h1, if_neg g, if_neg (by simpa using h3), if_pos h4]
        by_cases h5 : b < 240
        · simp [h4, h5]
        · have g2 : ¬ (224 ≤ b ∧ b < 240) := by omega
          have h6 : b ≥ 240 := by omega
          rw [if_neg (by simpa using h5), if_pos h6, if_neg g2]
          by_cases h7 : b < 245
          · simp [h6, h7]
          · simp [h7]
    · have g1 : ¬ (194 ≤ b ∧ b < 224) := by omega
      have g2 : ¬ (224 ≤ b ∧ b < 240) := by omega
      have g3 : ¬ (240 ≤ b ∧ b < 245) := by omega
      rw [if_neg h1, if_neg h2, if_neg h1, if_neg g1, if_neg g2, if_neg g3, if_neg (by decide), if_neg (by omega), if_neg (by decide), if_neg (by omega)]
      rfl
theorem dec_l0 (s : ByteArray) (n : Nat) (hs : n ≤ s.size) (hn : n ≤ 4) : ∀ (d : Nat) (x : Int) (i m : Nat), i + d = n → 1 ≤ i → m + d ≤ 3 → 0 ≤ x → x < 128 * 64 ^ m → Ev (fun k => utf_Decode.l0 k s x n i) (decL s n d x i)
  | 0, x, i, m, hi, h1, hm, h0, hx => by
    refine ⟨2, fun k hk => ?_⟩
    obtain ⟨k, rfl⟩ : ∃ j, k = j + 2 := ⟨k - 2, by omega⟩
    simp only [utf_Decode.l0, decL]
    rw [if_neg (by omega), width_f]
    simp only [Option.bind_some]
    by_cases h : widthF x = n
    · rw [if_pos (by omega), if_pos h]
    · rw [if_neg (by omega), if_neg h]
  | d + 1, x, i, m, hi, h1, hm, h0, hx => by
    have hb := byteI_in s i
    have hx9 : x ≤ 1000000000 := by
      have : m = 0 ∨ m = 1 ∨ m = 2 := by omega
      rcases this with rfl | rfl | rfl <;> omega
    have hstep : ∀ k, utf_Decode.l0 (k + 1) s x n i = if 128 ≤ byteI s i ∧ byteI s i ≤ 191 then utf_Decode.l0 k s (x * 64 + byteI s i % 64) n ((i + 1 : Nat) : Int) else some (-1, 1) := by
      intro k
      simp only [utf_Decode.l0]
      rw [if_pos (by omega), if_pos (by omega), if_pos (by omega), bt_byteI]
      by_cases h : 128 ≤ byteI s i ∧ byteI s i ≤ 191
      · rw [if_pos ((and192_iff hb).2 h), if_pos h, and63_eq hb, wrap_in (x := x * 64) (by omega) (by omega), wrap_in (x := byteI s i % 64) (by omega) (by omega), or_six h0 hx9 (by omega) (by omega), wrap_to (x := (i : Int) + 1) (y := ((i + 1 : Nat) : Int)) (by omega) (by omega) (by omega)]
      · rw [if_neg (fun g => h ((and192_iff hb).1 g)), if_neg h]
    unfold decL
    by_cases h : 128 ≤ byteI s i ∧ byteI s i ≤ 191
    · rw [if_pos h]
      refine Ev.step (fun k => by rw [hstep k, if_pos h]) (dec_l0 s n hs hn d _ (i + 1) (m + 1) (by omega) (by omega) (by omega) (by omega) ?_)
      have : m = 0 ∨ m = 1 ∨ m = 2 := by omega
      rcases this with rfl | rfl | rfl <;> omega
    · rw [if_neg h]
      exact Ev.step (fun k => by rw [hstep k, if_neg h]) (Ev.now _)
theorem dec_ev (s : ByteArray) : Ev (fun k => utf_Decode.f k s) (decV s) := by
  unfold decV utf_Decode.f
  by_cases h0 : s.size = 0
  · have e : s.toList = ([] : List UInt8) := by
      rw [ByteArray.toList_eq]
      exact List.length_eq_zero_iff.1 (by simpa using h0)
    rw [if_pos h0]
    simp only [if_pos e]
    exact Ev.now _
  · rw [if_neg h0]
    have e : ¬ s.toList = ([] : List UInt8) := by
      intro e
      rw [ByteArray.toList_eq] at e
      have := congrArg List.length e
      rw [Array.length_toList] at this
      exact h0 this
    simp only [if_neg e, if_pos (show 0 < (s.size : Int) by omega)]
    have hb := byteI_in s 0
    have hbt : bt s 0 = byteI s 0 := bt_byteI s 0
    rw [hbt]
    refine Ev.bind (a := (longV (byteI s 0) : Int)) ⟨2, fun k hk => by obtain ⟨k, rfl⟩ : ∃ j, k = j + 2 := ⟨k - 2, by omega⟩; exact long_fv k _⟩ ?_
    by_cases h1 : longV (byteI s 0) = 0
    · rw [if_pos (.inl h1)]
      simp only [if_pos (show ((longV (byteI s 0) : Nat) : Int) = 0 by omega)]
      exact Ev.step (fun k => by simp only [utf_Decode.j0]; rfl) (Ev.now _)
    · simp only [if_neg (show ¬ ((longV (byteI s 0) : Nat) : Int) = 0 by omega)]
      by_cases h2 : s.size < longV (byteI s 0)
      · rw [if_pos (.inr h2)]
        refine Ev.step (fun k => by simp only [utf_Decode.j0]; rw [if_pos (by simp; omega)]) (Ev.now _)
      · rw [if_neg (by omega)]
        have hx := xor_lead hb h1
        have hl4 := longV_le (byteI s 0)
        refine Ev.step (f := fun k => utf_Decode.l0 k s (byteI s 0 - leadV (longV (byteI s 0))) (longV (byteI s 0)) 1) (fun k => ?_) (dec_l0 s _ (by omega) hl4 _ _ 1 0 (by omega) (by omega) (by omega) hx.2.1 (by omega))
        simp only [utf_Decode.j0]
        rw [if_neg (by simp; omega), if_pos (by omega)]
        rw [show utf_lead.f ((longV (byteI s 0) : Nat) : Int) = some (leadV (longV (byteI s 0))) by unfold utf_lead.f; rw [if_pos (by omega), Int.toNat_natCast]]
        simp only [Option.bind_some]
        rw [hbt, hx.1, wrap_in (x := byteI s 0 - leadV (longV (byteI s 0))) (by omega) (by omega)]
/-- A number: an escape, or a rune. -/
def oneV : List UInt8 → Int × Int × Int
  | [] => (0, 0, 82)
  | c :: t => if (c.toNat : Int) = 92 then escV (c :: t) else if (decV ⟨⟨c :: t⟩⟩).1 < 0 then (0, 0, 3) else ((decV ⟨⟨c :: t⟩⟩).1, (decV ⟨⟨c :: t⟩⟩).2, 0)
theorem one_ev (s : List UInt8) (hs : s.length ≤ 1000000) : Ev (fun k => bracket_one.f k ⟨⟨s⟩⟩) (oneV s) := by
  cases s with
  | nil => exact ev_const fun k => by unfold bracket_one.f; rw [tl, if_pos rfl]; rfl
  | cons c t =>
    have z := sz (c :: t)
    have hb : bt ⟨⟨c :: t⟩⟩ 0 = (c.toNat : Int) := (bt_drop (l := c :: t) (i := 0) rfl).1
    have h0 : ∀ k, bracket_one.f k ⟨⟨c :: t⟩⟩ = if (c.toNat : Int) = 92 then (bracket_Number.f k ⟨⟨c :: t⟩⟩).bind fun bt => some (bt.1, bt.2.1, bt.2.2) else (utf_Decode.f k ⟨⟨c :: t⟩⟩).bind fun bt => if bt.1 < 0 then some (0, 0, 3) else some (bt.1, bt.2, 0) := fun k => by
      unfold bracket_one.f
      rw [tl, if_neg (by simp), z, if_pos (by simp only [List.length_cons]; omega), hb]
    refine Ev.congr h0 ?_
    simp only [oneV]
    by_cases e : (c.toNat : Int) = 92
    · simp only [if_pos e]
      exact Ev.bind (num_ev (c :: t) hs) (Ev.now _)
    · simp only [if_neg e]
      refine Ev.bind (dec_ev ⟨⟨c :: t⟩⟩) (ev_const fun k => ?_)
      split <;> rfl
theorem long_out : ∀ (l : List UInt8) (i : Nat) (r : Int), 0 ≤ r → r < 16 ^ (i - 3) → 3 ≤ i → (hexLongV l i r).2.2 = 0 → 0 ≤ (hexLongV l i r).1 ∧ (hexLongV l i r).1 ≤ 1114111 ∧ (i : Int) + 1 ≤ (hexLongV l i r).2.1 ∧ (hexLongV l i r).2.1 ≤ (i : Int) + l.length
  | [], i, r, h0, h1, h3, h => by simp [hexLongV] at h
  | c :: t, i, r, h0, h1, h3, h => by
    have hd := digV_in c.toNat
    unfold hexLongV at h ⊢
    split at h
    · rename_i g
      rw [if_pos g]
      simp only [List.length_cons]
      omega
    split at h
    · simp at h
    · rename_i g1 g2
      rw [if_neg g1, if_neg g2]
      have := long_out t (i + 1) (16 * r + digV c.toNat) (by omega) (by rw [show i + 1 - 3 = (i - 3) + 1 by omega, Int.pow_succ]; omega) (by omega) h
      simp only [List.length_cons]
      omega
theorem short_out (l : List UInt8) (h : (hexShortV l).2.2 = 0) : 0 ≤ (hexShortV l).1 ∧ (hexShortV l).1 ≤ 255 ∧ (hexShortV l).2.1 = 4 ∧ 2 ≤ l.length := by
  match l with
  | [] => simp [hexShortV] at h
  | [a] => simp only [hexShortV] at h; split at h <;> simp at h
  | a :: b :: t =>
    have h1 := digV_in a.toNat
    have h2 := digV_in b.toNat
    simp only [hexShortV] at h ⊢
    split at h
    · simp at h
    split at h
    · simp at h
    · rename_i g1 g2
      rw [if_neg g1, if_neg g2]
      simp only [List.length_cons]
      exact ⟨by omega, by omega, trivial, by omega⟩
theorem plain_in {c v : Int} (h : plainV c = some v) : 0 ≤ v ∧ v ≤ 255 := by
  unfold plainV at h
  repeat' split at h
  all_goals first
    | (cases h; done)
    | (obtain rfl := Option.some.inj h; omega)
theorem esc_out (l : List UInt8) (h : (escV l).2.2 = 0) : 0 ≤ (escV l).1 ∧ (escV l).1 ≤ 1114111 ∧ 2 ≤ (escV l).2.1 ∧ (escV l).2.1 ≤ l.length := by
  match l with
  | [] => simp [escV] at h
  | [c] => simp only [escV] at h; split at h <;> simp at h
  | c :: d :: t =>
    have hd := u8_in d
    simp only [escV, List.length_cons] at h ⊢
    by_cases e : (c.toNat : Int) = 92
    · rw [if_pos e] at h ⊢
      cases hp : plainV (d.toNat : Int) with
      | some v => have := plain_in hp; dsimp only; omega
      | none =>
        rw [hp] at h
        dsimp only at h ⊢
        by_cases e2 : (d.toNat : Int) = 120
        · rw [if_pos e2] at h ⊢
          by_cases e3 : t.head? = some 123
          · rw [if_pos e3] at h ⊢
            have := long_out t.tail 3 0 (by omega) (by decide) (by omega) h
            have hl : t.tail.length + 1 = t.length := by cases t with | nil => cases e3 | cons _ _ => rfl
            omega
          · rw [if_neg e3] at h ⊢
            have := short_out t h
            omega
        · rw [if_neg e2] at h ⊢
          split at h
          · simp at h
          · rename_i g
            rw [if_neg g]
            dsimp only
            omega
    · rw [if_neg e] at h
      simp at h
theorem dec_out (l : List UInt8) (h : ¬ (decV ⟨⟨l⟩⟩).1 < 0) : 0 ≤ (decV ⟨⟨l⟩⟩).1 ∧ (decV ⟨⟨l⟩⟩).1 ≤ 1114111 ∧ 1 ≤ (decV ⟨⟨l⟩⟩).2 ∧ (decV ⟨⟨l⟩⟩).2 ≤ l.length := by
  have z := sz l
  rcases decV_cases ⟨⟨l⟩⟩ with ⟨_, h1⟩ | ⟨_, h1, _⟩ | ⟨r, h1, h2, h3⟩
  · rw [h1] at h; exact absurd (by decide) h
  · rw [h1] at h; exact absurd (by decide) h
  · rw [h3]
    have hw := (width_in (r := r) (by omega)).2
    have := h2.1
    dsimp only
    omega
theorem one_out (l : List UInt8) (h : (oneV l).2.2 = 0) : 0 ≤ (oneV l).1 ∧ (oneV l).1 ≤ 1114111 ∧ 1 ≤ (oneV l).2.1 ∧ (oneV l).2.1 ≤ l.length := by
  cases l with
  | nil => simp [oneV] at h
  | cons c t =>
    simp only [oneV] at h ⊢
    by_cases e : (c.toNat : Int) = 92
    · rw [if_pos e] at h ⊢
      have := esc_out (c :: t) h
      omega
    · rw [if_neg e] at h ⊢
      by_cases e2 : (decV ⟨⟨c :: t⟩⟩).1 < 0
      · rw [if_pos e2] at h; simp at h
      · rw [if_neg e2]
        exact dec_out (c :: t) e2
theorem cutL_len (c : UInt8) : ∀ (s t : List UInt8), (cutL c s).2 = some t → (cutL c s).1.length + 1 ≤ s.length
  | [], t, h => by simp [cutL] at h
  | b :: u, t, h => by
    unfold cutL at h ⊢
    by_cases e : b = c
    · simp only [if_pos e, List.length_nil, List.length_cons]; omega
    · simp only [if_neg e] at h ⊢
      have := cutL_len c u t h
      simp only [List.length_cons]
      omega
theorem pro_out (neg : Bool) (nm : List UInt8) (n : Int) (h : (proV neg nm n).2.2 = 0) : (proV neg nm n).2.1 = n := by
  unfold proV at h ⊢
  split at h
  · rename_i g; rw [if_pos g]
  · simp at h
theorem set_few (l : List UInt8) (h : (setV l).2.2 = 0) : (setV l).1.length ≤ 700 ∨ 3 ≤ (setV l).2.1 := by
  match l with
  | [] => simp [setV] at h
  | [c] => simp only [setV] at h; split at h <;> simp at h
  | c :: d :: t =>
    simp only [setV] at h ⊢
    by_cases e : (c.toNat : Int) = 92
    · rw [if_pos e] at h ⊢
      by_cases e1 : isLet d.toNat = true
      · rw [if_pos e1]
        have hd := u8_in d
        exact .inl (let_ev hd.1 hd.2).2.2
      · rw [if_neg e1] at h ⊢
        by_cases e2 : (d.toNat : Int) = 112 ∨ (d.toNat : Int) = 80
        · rw [if_pos e2] at h ⊢
          cases t with
          | nil => simp [propV] at h
          | cons f v =>
            simp only [propV] at h ⊢
            by_cases e3 : (f.toNat : Int) = 123
            · rw [if_pos e3] at h ⊢
              cases hq : (cutL 125 v).2 with
              | none => rw [hq] at h; simp at h
              | some x =>
                rw [hq] at h
                dsimp only at h ⊢
                rw [pro_out _ _ _ h]
                omega
            · rw [if_neg e3] at h ⊢
              by_cases e4 : letB f.toNat = true
              · rw [if_pos e4] at h ⊢
                rw [pro_out _ _ _ h]
                omega
              · rw [if_neg e4] at h
                simp at h
        · rw [if_neg e2] at h
          simp at h
    · rw [if_neg e] at h
      simp at h
theorem set_out (l : List UInt8) (h : (setV l).2.2 = 0) : 2 ≤ (setV l).2.1 ∧ (setV l).2.1 ≤ l.length := by
  match l with
  | [] => simp [setV] at h
  | [c] => simp only [setV] at h; split at h <;> simp at h
  | c :: d :: t =>
    simp only [setV, List.length_cons] at h ⊢
    by_cases e : (c.toNat : Int) = 92
    · rw [if_pos e] at h ⊢
      by_cases e1 : isLet d.toNat = true
      · rw [if_pos e1] at h ⊢
        dsimp only
        omega
      · rw [if_neg e1] at h ⊢
        by_cases e2 : (d.toNat : Int) = 112 ∨ (d.toNat : Int) = 80
        · rw [if_pos e2] at h ⊢
          cases t with
          | nil => simp [propV] at h
          | cons f v =>
            simp only [propV, List.length_cons] at h ⊢
            by_cases e3 : (f.toNat : Int) = 123
            · rw [if_pos e3] at h ⊢
              cases hq : (cutL 125 v).2 with
              | none => rw [hq] at h; simp at h
              | some x =>
                rw [hq] at h
                dsimp only at h ⊢
                rw [pro_out _ _ _ h]
                have := cutL_len 125 v x hq
                omega
            · rw [if_neg e3] at h ⊢
              by_cases e4 : letB f.toNat = true
              · rw [if_pos e4] at h ⊢
                rw [pro_out _ _ _ h]
                omega
              · rw [if_neg e4] at h
                simp at h
        · rw [if_neg e2] at h
          simp at h
    · rw [if_neg e] at h
      simp at h
/-- The second half of a span. -/
def spanV (lo n : Int) (v : List UInt8) : List S36 × Int × Int :=
  if (setV v).2.2 ≠ 5 ∧ (setV v).2.2 ≠ 3 then ([], n + 1, 70) else if (oneV v).2.2 ≠ 0 then ([], n + 1, (oneV v).2.2) else if (oneV v).1 < lo then ([], 0, 70) else ([⟨lo, (oneV v).1⟩], n + 1 + (oneV v).2.1, 0)
def tailV (lo n : Int) : List UInt8 → List S36 × Int × Int
  | a :: b :: u => if a = 45 ∧ b ≠ 93 then spanV lo n (b :: u) else ([⟨lo, lo⟩], n, 0)
  | _ => ([⟨lo, lo⟩], n, 0)
abbrev colCut (l : List UInt8) := Lib.cut (l.drop 2) [58, 93]
/-- An item: what it says, how many bytes it has, or where it is wrong. -/
def itemV (l : List UInt8) : List S36 × Int × Int :=
  if l.take 2 = [91, 58] then (if (colCut l).2.2 = true then (if (turnV colTab (colCut l).1).2 = 0 then ((turnV colTab (colCut l).1).1.map toRg, 4 + ((colCut l).1.length : Int), 0) else ([], 0, 70)) else ([], 0, 82))
  else if (setV l).2.2 = 0 then setV l else if (setV l).2.2 ≠ 5 ∧ (setV l).2.2 ≠ 3 then ([], 0, (setV l).2.2) else if (oneV l).2.2 ≠ 0 then ([], 0, (oneV l).2.2) else tailV (oneV l).1 (oneV l).2.1 (l.drop (oneV l).2.1.toNat)
def shiftV (n : Int) (q : List S36 × Int × Int) : List S36 × Int × Int := (q.1, n + q.2.1, q.2.2)
theorem cut_bound (s sep : List UInt8) (h : (Lib.cut s sep).2.2 = true) : (Lib.cut s sep).1.length + sep.length ≤ s.length := by
  unfold Lib.cut at h ⊢
  split at h
  · rename_i g
    rw [if_pos g]
    have := Lib.index_room s sep g
    simp only [List.length_take]
    omega
  · cases h
theorem span_out (lo n : Int) (v : List UInt8) (h : (spanV lo n v).2.2 = 0) : n + 2 ≤ (spanV lo n v).2.1 ∧ (spanV lo n v).2.1 ≤ n + 1 + v.length ∧ (spanV lo n v).1.length = 1 := by
  unfold spanV at h ⊢
  split at h
  · simp at h
  · rename_i g
    split at h
    · rename_i g2; exact absurd h g2
    · rename_i g2
      split at h
      · simp at h
      · rename_i g3
        rw [if_neg g, if_neg g2, if_neg g3]
        have := one_out v (Decidable.not_not.1 g2)
        dsimp only
        exact ⟨by omega, by omega, rfl⟩
theorem tail_out (lo n : Int) (l : List UInt8) (h : (tailV lo n l).2.2 = 0) : n ≤ (tailV lo n l).2.1 ∧ (tailV lo n l).2.1 ≤ n + l.length ∧ (tailV lo n l).1.length = 1 := by
  match l with
  | [] => exact ⟨Int.le_refl _, by simp [tailV], rfl⟩
  | [a] => exact ⟨Int.le_refl _, by simp [tailV]; omega, rfl⟩
  | a :: b :: u =>
    simp only [tailV] at h ⊢
    split at h
    · rename_i g
      rw [if_pos g]
      have := span_out lo n (b :: u) h
      simp only [List.length_cons] at this ⊢
      omega
    · rename_i g
      rw [if_neg g]
      simp only [List.length_cons]
      exact ⟨Int.le_refl _, by omega, rfl⟩
/-- What an item that is right takes and gives. -/
theorem item_out (l : List UInt8) (h : (itemV l).2.2 = 0) : 1 ≤ (itemV l).2.1 ∧ (itemV l).2.1 ≤ l.length ∧ ((itemV l).1.length : Int) ≤ 400 * (itemV l).2.1 := by
  unfold itemV at h ⊢
  by_cases e : l.take 2 = [91, 58]
  · rw [if_pos e] at h ⊢
    by_cases e2 : (colCut l).2.2 = true
    · rw [if_pos e2] at h ⊢
      by_cases e3 : (turnV colTab (colCut l).1).2 = 0
      · rw [if_pos e3]
        have h1 := (turn_fact col_tab.2 (colCut l).1).2.1
        have h2 : (colCut l).1.length + [58, 93].length ≤ (l.drop 2).length := cut_bound _ _ e2
        have h3 : 2 ≤ l.length := by
          have := congrArg List.length e
          rw [List.length_take] at this
          simp at this
          omega
        rw [List.length_drop] at h2
        simp only [List.length_cons, List.length_nil] at h2
        dsimp only
        rw [List.length_map]
        omega
      · rw [if_neg e3] at h; simp at h
    · rw [if_neg e2] at h; simp at h
  · rw [if_neg e] at h ⊢
    by_cases e1 : (setV l).2.2 = 0
    · rw [if_pos e1] at h ⊢
      have := set_out l h
      have h2 := set_small l
      have h3 := set_few l h
      omega
    · rw [if_neg e1] at h ⊢
      by_cases e2 : (setV l).2.2 ≠ 5 ∧ (setV l).2.2 ≠ 3
      · rw [if_pos e2] at h; exact absurd h e1
      · rw [if_neg e2] at h ⊢
        by_cases e3 : (oneV l).2.2 ≠ 0
        · rw [if_pos e3] at h; exact absurd h e3
        · rw [if_neg e3] at h ⊢
          have h1 := one_out l (Decidable.not_not.1 e3)
          have h2 := tail_out _ _ _ h
          rw [List.length_drop] at h2
          omega
theorem prefix_ev (l : List UInt8) : strings_HasPrefix.f ⟨⟨l⟩⟩ (⟨#[91, 58]⟩ : ByteArray) = some (decide (l.take 2 = [91, 58])) := by
  unfold strings_HasPrefix.f stringslite_HasPrefix.f
  have h1 : (⟨#[91, 58]⟩ : ByteArray).size = 2 := rfl
  have h2 : (⟨#[91, 58]⟩ : ByteArray).toList = [91, 58] := by rw [ByteArray.toList_eq]
  rw [sz, h1]
  by_cases e : (l.length : Int) ≥ ((2 : Nat) : Int)
  · rw [if_pos e, if_pos (by omega), if_pos e, h2, ex_list, tl, Option.bind_some]
    congr 1
    rw [Bool.eq_iff_iff]
    simp
  · rw [if_neg e, decide_eq_false]
    · rfl
    · intro h
      have := congrArg List.length h
      rw [List.length_take] at this
      simp at this
      omega
theorem span_ev (s : List UInt8) (hs : s.length ≤ 1000000) (at_ n : Nat) (lo : Int) (v : List UInt8) (h : s.drop (at_ + n + 1) = v) (hl : at_ + n + 1 ≤ s.length) : Ev (fun k => bracket_span.f k ⟨⟨s⟩⟩ at_ (at_ + n + 1) lo) (shiftV at_ (spanV lo n v)) := by
  have z := sz s
  have hex : (ByteArray.mk ⟨s⟩).extract (at_ + n + 1) (ByteArray.mk ⟨s⟩).size = ⟨⟨v⟩⟩ := by
    rw [z, ex_list, List.take_of_length_le (by rw [List.length_drop]; omega), h]
  have hv : v.length ≤ 1000000 := by rw [← h, List.length_drop]; omega
  have hvl : v.length = s.length - (at_ + n + 1) := by rw [← h, List.length_drop]
  refine Ev.congr (f := fun k => (bracket_Set.f k ⟨⟨v⟩⟩).bind fun q => if q.2.2 ≠ 5 ∧ q.2.2 ≠ 3 then some ([], ((at_ + n + 1 : Nat) : Int), 70) else (bracket_one.f k ⟨⟨v⟩⟩).bind fun p => if p.2.2 ≠ 0 then some ([], ((at_ + n + 1 : Nat) : Int), p.2.2) else if p.1 < lo then some ([], (at_ : Int), 70) else if 0 ≤ p.2.1 ∧ p.2.1 ≤ s.length then some ([⟨lo, p.1⟩], ((at_ + n + 1 : Nat) : Int) + p.2.1, 0) else none) (fun k => by
    unfold bracket_span.f
    rw [if_pos (by omega), hex, z]) ?_
  refine Ev.bind (set_ev v hv) ?_
  unfold spanV shiftV
  have hc : ((at_ + n + 1 : Nat) : Int) = (at_ : Int) + ((n : Int) + 1) := by omega
  simp only [hc]
  by_cases e : (setV v).2.2 ≠ 5 ∧ (setV v).2.2 ≠ 3
  · simp only [if_pos e]
    exact ev_const fun _ => rfl
  · simp only [if_neg e]
    refine Ev.bind (one_ev v hv) (ev_const fun _ => ?_)
    by_cases e2 : (oneV v).2.2 ≠ 0
    · simp only [if_pos e2]
    · simp only [if_neg e2]
      by_cases e3 : (oneV v).1 < lo
      · simp only [if_pos e3, Int.add_zero]
      · simp only [if_neg e3]
        have := one_out v (Decidable.not_not.1 e2)
        rw [if_pos (by omega), Int.add_assoc]
theorem item_ev (s : List UInt8) (hs : s.length ≤ 1000000) (at_ : Nat) (l : List UInt8) (h : s.drop at_ = l) (ha : at_ ≤ s.length) : Ev (fun k => bracket_item.f k ⟨⟨s⟩⟩ at_) (shiftV at_ (itemV l)) := by
  have z := sz s
  have hex : (ByteArray.mk ⟨s⟩).extract at_ (ByteArray.mk ⟨s⟩).size = ⟨⟨l⟩⟩ := by
    rw [z, ex_list, List.take_of_length_le (by rw [List.length_drop]; omega), h]
  have hv : l.length ≤ 1000000 := by rw [← h, List.length_drop]; omega
  have hvl : l.length = s.length - at_ := by rw [← h, List.length_drop]
  have h0 : ∀ k, bracket_item.f k ⟨⟨s⟩⟩ at_ = if l.take 2 = [91, 58] then (if (colCut l).2.2 = true then (class_Colon.f k ⟨⟨(colCut l).1⟩⟩).bind fun q => if q.2 = 0 then some (q.1, (at_ : Int) + 2 + ((colCut l).1.length : Int) + 2, 0) else some ([], (at_ : Int), q.2) else some ([], (at_ : Int), 82))
      else (bracket_Set.f k ⟨⟨l⟩⟩).bind fun q => if q.2.2 = 0 then (if 0 ≤ q.2.1 ∧ q.2.1 ≤ s.length then some (q.1, (at_ : Int) + q.2.1, 0) else none) else if q.2.2 ≠ 5 ∧ q.2.2 ≠ 3 then some ([], (at_ : Int), q.2.2) else
      (bracket_one.f k ⟨⟨l⟩⟩).bind fun p => if p.2.2 ≠ 0 then some ([], (at_ : Int), p.2.2) else if 0 ≤ p.2.1 ∧ p.2.1 ≤ s.length then
        (if (s.length : Int) ≤ (at_ : Int) + p.2.1 + 1 ∨ bt ⟨⟨s⟩⟩ ((at_ : Int) + p.2.1) ≠ 45 ∨ bt ⟨⟨s⟩⟩ ((at_ : Int) + p.2.1 + 1) = 93 then some ([⟨p.1, p.1⟩], (at_ : Int) + p.2.1, 0)
         else bracket_span.f k ⟨⟨s⟩⟩ at_ ((at_ : Int) + p.2.1 + 1).toNat p.1) else none := fun k => by
    unfold bracket_item.f
    rw [if_pos (by omega), hex, prefix_ev, Option.bind_some]
    by_cases e : l.take 2 = [91, 58]
    · have hl2 : 2 ≤ l.length := by
        have := congrArg List.length e
        rw [List.length_take] at this
        simp at this
        omega
      rw [if_pos (decide_eq_true e), if_pos e, sz, if_pos hl2, ex_list, List.take_of_length_le (by rw [List.length_drop]; omega)]
    · rw [if_neg (by simpa using e), if_neg e, z]
      congr 1
      funext q
      congr 2
      congr 1
      funext p
      congr 1
      rw [tl]
      by_cases e2 : l = []
      · rw [if_pos e2]
        subst e2
        simp at hvl
        have : s.length = at_ := by omega
        rw [this]
      · rw [if_neg e2]
  refine Ev.congr h0 ?_
  unfold itemV shiftV
  by_cases e : l.take 2 = [91, 58]
  · simp only [if_pos e]
    by_cases e2 : (colCut l).2.2 = true
    · simp only [if_pos e2]
      refine Ev.bind (col_ev (colCut l).1) (ev_const fun _ => ?_)
      rcases (turn_fact col_tab.2 (colCut l).1).2.2 with e3 | e3
      · simp only [if_pos e3]
        congr 3
        omega
      · rw [e3]
        rfl
    · simp only [if_neg e2, Int.add_zero]
      exact Ev.now _
  · simp only [if_neg e]
    refine Ev.bind (set_ev l hv) ?_
    by_cases e1 : (setV l).2.2 = 0
    · simp only [if_pos e1]
      have := set_out l e1
      refine ev_const fun _ => ?_
      rw [if_pos (by omega), e1]
    · simp only [if_neg e1]
      by_cases e2 : (setV l).2.2 ≠ 5 ∧ (setV l).2.2 ≠ 3
      · simp only [if_pos e2, Int.add_zero]
        exact Ev.now _
      · simp only [if_neg e2]
        refine Ev.bind (one_ev l hv) ?_
        by_cases e3 : (oneV l).2.2 ≠ 0
        · simp only [if_pos e3, Int.add_zero]
          exact Ev.now _
        · simp only [if_neg e3]
          have ho := one_out l (Decidable.not_not.1 e3)
          obtain ⟨n, hn⟩ : ∃ n : Nat, (oneV l).2.1 = n := ⟨(oneV l).2.1.toNat, by omega⟩
          rw [hn]
          generalize (oneV l).1 = lo at ho
          have hnl : n ≤ l.length := by omega
          have hin : 0 ≤ (n : Int) ∧ (n : Int) ≤ s.length := by omega
          simp only [if_pos hin, Int.toNat_natCast]
          have hdr : s.drop (at_ + n) = l.drop n := by rw [← h, List.drop_drop]
          cases hq : l.drop n with
          | nil =>
            have : l.length ≤ n := List.drop_eq_nil_iff.1 hq
            refine ev_const fun _ => ?_
            rw [if_pos (.inl (by omega))]
            rfl
          | cons a u =>
            rw [hq] at hdr
            obtain ⟨hb1, hi1, ht1⟩ := bt_drop hdr
            rw [show ((at_ + n : Nat) : Int) = (at_ : Int) + n by omega] at hb1
            cases u with
            | nil =>
              have hlen := congrArg List.length hdr
              rw [List.length_drop] at hlen
              simp at hlen
              refine ev_const fun _ => ?_
              rw [if_pos (.inl (by omega))]
              rfl
            | cons b v =>
              obtain ⟨hb2, hi2, ht2⟩ := bt_drop ht1
              rw [show ((at_ + n + 1 : Nat) : Int) = (at_ : Int) + n + 1 by omega] at hb2
              simp only [tailV, hb1, hb2]
              by_cases g : a = 45 ∧ b ≠ 93
              · have g2 : ¬ ((s.length : Int) ≤ (at_ : Int) + n + 1 ∨ (a.toNat : Int) ≠ 45 ∨ (b.toNat : Int) = 93) := by
                  intro hh
                  rcases hh with hh | hh | hh
                  · omega
                  · exact hh (by rw [g.1]; rfl)
                  · exact g.2 (u8_eq (n := 93) hh (by omega))
                simp only [if_pos g, if_neg g2]
                rw [show ((at_ : Int) + n + 1).toNat = at_ + n + 1 by omega]
                exact span_ev s hs at_ n lo (b :: v) ht1 (by omega)
              · have g2 : (s.length : Int) ≤ (at_ : Int) + n + 1 ∨ (a.toNat : Int) ≠ 45 ∨ (b.toNat : Int) = 93 := by
                  by_cases ha : a = 45
                  · have hb : b = 93 := Decidable.byContradiction fun hb => g ⟨ha, hb⟩
                    exact .inr (.inr (by rw [hb]; rfl))
                  · exact .inr (.inl fun hh => ha (u8_eq (n := 45) hh (by omega)))
                simp only [if_neg g, if_pos g2]
                exact Ev.now _
theorem span_bad (lo n : Int) (v : List UInt8) (h : (spanV lo n v).2.2 ≠ 0) : (spanV lo n v).1 = [] := by
  unfold spanV at h ⊢
  split
  · rfl
  · split
    · rfl
    · split
      · rfl
      · rename_i g1 g2 g3
        rw [if_neg g1, if_neg g2, if_neg g3] at h
        exact absurd rfl h
theorem tail_bad (lo n : Int) (l : List UInt8) (h : (tailV lo n l).2.2 ≠ 0) : (tailV lo n l).1 = [] := by
  match l with
  | [] => exact absurd rfl h
  | [a] => exact absurd rfl h
  | a :: b :: u =>
    simp only [tailV] at h ⊢
    split at h
    · rename_i g
      rw [if_pos g]
      exact span_bad _ _ _ h
    · exact absurd rfl h
theorem item_bad (l : List UInt8) (h : (itemV l).2.2 ≠ 0) : (itemV l).1 = [] := by
  unfold itemV at h ⊢
  split
  · rename_i e
    rw [if_pos e] at h
    split
    · rename_i e2
      rw [if_pos e2] at h
      split
      · rename_i e3
        rw [if_pos e3] at h
        exact absurd rfl h
      · rfl
    · rfl
  · rename_i e
    rw [if_neg e] at h
    split
    · rename_i e1
      rw [if_pos e1] at h
      exact absurd e1 h
    · rename_i e1
      rw [if_neg e1] at h
      split
      · rfl
      · rename_i e2
        rw [if_neg e2] at h
        split
        · rfl
        · rename_i e3
          rw [if_neg e3] at h
          exact tail_bad _ _ _ h
/-- The items, one behind the other: what was collected, or where it is wrong. -/
def brL : Nat → List UInt8 → Bool → Int → List S36 → List S36 × Int × Int
  | 0, _, _, at_, _ => ([], at_, 82)
  | f + 1, l, first, at_, acc => if first = true ∨ (l ≠ [] ∧ l.head? ≠ some 93) then (if (itemV l).2.2 ≠ 0 then ([], at_ + (itemV l).2.1, (itemV l).2.2) else brL f (l.drop (itemV l).2.1.toNat) false (at_ + (itemV l).2.1) (acc ++ (itemV l).1)) else if l = [] then ([], at_, 82) else (acc, at_, 0)
theorem br_ev (s : List UInt8) (hs : s.length ≤ 249) (F : Nat) : ∀ (fuel : Nat) (l : List UInt8) (at_ : Nat) (first : Bool) (acc : List S36), s.drop at_ = l → l.length < fuel → at_ ≤ s.length → F ≤ at_ → (first = true ↔ at_ = F) → acc.length ≤ 400 * at_ → Ev (fun k => bracket_Bracket.l0 k ⟨⟨s⟩⟩ F at_ acc) (brL fuel l first at_ acc)
  | 0, l, at_, first, acc, h, hf, ha, hF, hfi, hacc => absurd hf (Nat.not_lt_zero _)
  | fuel + 1, l, at_, first, acc, h, hf, ha, hF, hfi, hacc => by
    have z := sz s
    have hvl : l.length = s.length - at_ := by rw [← h, List.length_drop]
    have hcond : (at_ = F ∨ ((at_ : Int) < (s.length : Int) ∧ bt ⟨⟨s⟩⟩ at_ ≠ 93)) ↔ (first = true ∨ (l ≠ [] ∧ l.head? ≠ some 93)) := by
      rw [hfi]
      cases l with
      | nil =>
        simp at hvl
        constructor
        · rintro (h1 | h1)
          · exact .inl h1
          · omega
        · rintro (h1 | h1)
          · exact .inl h1
          · exact absurd rfl h1.1
      | cons c t =>
        obtain ⟨hb, hi, _⟩ := bt_drop h
        rw [hb]
        constructor
        · rintro (h1 | h1)
          · exact .inl h1
          · exact .inr ⟨by simp, by simp; intro e; exact h1.2 (by rw [e]; rfl)⟩
        · rintro (h1 | h1)
          · exact .inl h1
          · refine .inr ⟨by omega, fun e => h1.2 ?_⟩
            rw [u8_eq (n := 93) e (by omega)]
            rfl
    rw [brL]
    by_cases g : first = true ∨ (l ≠ [] ∧ l.head? ≠ some 93)
    · rw [if_pos g]
      refine Ev.step (f := fun k => (bracket_item.f k ⟨⟨s⟩⟩ at_).bind fun q => if acc.length + q.1.length ≤ 100000 then (if q.2.2 ≠ 0 then some ([], q.2.1, q.2.2) else if 0 ≤ q.2.1 then bracket_Bracket.l0 k ⟨⟨s⟩⟩ F q.2.1.toNat (acc ++ q.1) else none) else none) (fun k => by rw [bracket_Bracket.l0, z, if_pos (hcond.2 g)]) (Ev.bind (item_ev s (by omega) at_ l h ha) ?_)
      unfold shiftV
      by_cases e : (itemV l).2.2 ≠ 0
      · rw [if_pos e, item_bad l e]
        refine ev_const fun _ => ?_
        rw [if_pos (by simp; omega), if_pos e]
      · rw [if_neg e]
        have ho := item_out l (Decidable.not_not.1 e)
        obtain ⟨n, hn⟩ : ∃ n : Nat, (itemV l).2.1 = n := ⟨(itemV l).2.1.toNat, by omega⟩
        rw [hn] at ho ⊢
        have ih := br_ev s hs F fuel (l.drop n) (at_ + n) false (acc ++ (itemV l).1) (by rw [← h, List.drop_drop]) (by rw [List.length_drop]; omega) (by omega) (by omega) ⟨fun h => (by cases h), fun h => (by omega)⟩ (by rw [List.length_append]; omega)
        rw [show ((at_ + n : Nat) : Int) = (at_ : Int) + n by omega] at ih
        refine Ev.congr (fun k => ?_) ih
        dsimp only
        rw [if_pos (by omega), if_neg e, if_pos (by omega), show ((at_ : Int) + (n : Int)).toNat = at_ + n by omega]
    · rw [if_neg g]
      refine Ev.step (f := fun _ => if (s.length : Int) ≤ (at_ : Int) then some ([], (s.length : Int), 82) else some (acc, (at_ : Int), 0)) (fun k => by rw [bracket_Bracket.l0, z, if_neg (fun h => g (hcond.1 h))]) ?_
      by_cases e : l = []
      · rw [if_pos e]
        subst e
        simp at hvl
        exact ev_const fun _ => by rw [if_pos (by omega), show s.length = at_ by omega]
      · rw [if_neg e]
        have : 0 < l.length := List.length_pos_iff.2 e
        exact ev_const fun _ => by rw [if_neg (by omega)]
def foldB (flags : Int) : Bool := decide (Go.bits .and .i64 flags 1 ≠ 0)
def madeL (neg fold : Bool) (l : List (Int × Int)) : List (Int × Int) := normL (if neg then notL (if fold then closeL l else l) else (if fold then closeL l else l))
/-- A set between brackets. -/
def brV (s : List UInt8) (flags : Int) : List S36 × Int × Int :=
  if s.head? ≠ some 91 then ([], 0, 3) else
  let neg := decide ((s.drop 1).head? = some 94)
  let F := if neg then 2 else 1
  let q := brL (s.length + 1) (s.drop F) true F []
  if q.2.2 ≠ 0 then q else ((madeL neg (foldB flags) (q.1.map ofRg)).map toRg, q.2.1 + 1, 0)
theorem brL_len : ∀ (fuel : Nat) (l : List UInt8) (first : Bool) (at_ : Int) (acc : List S36), (acc.length : Int) ≤ 400 * at_ → 0 ≤ at_ → ((brL fuel l first at_ acc).1.length : Int) ≤ 400 * (at_ + l.length)
  | 0, l, first, at_, acc, h, h0 => by simp [brL]; omega
  | fuel + 1, l, first, at_, acc, h, h0 => by
    rw [brL]
    split
    · split
      · simp; omega
      · rename_i g e
        have ho := item_out l (Decidable.not_not.1 e)
        have := brL_len fuel (l.drop (itemV l).2.1.toNat) false (at_ + (itemV l).2.1) (acc ++ (itemV l).1) (by rw [List.length_append]; omega) (by omega)
        rw [List.length_drop] at this
        omega
    · split
      · simp; omega
      · dsimp only; omega
theorem bracket_ev (s : List UInt8) (hs : s.length ≤ 249) (flags : Int) : Ev (fun k => bracket_Bracket.f k ⟨⟨s⟩⟩ flags) (brV s flags) := by
  have z := sz s
  cases s with
  | nil => exact ev_const fun k => by unfold bracket_Bracket.f; rw [z, if_pos (by simp), tl, if_pos rfl]; rfl
  | cons c t =>
    have hb : bt ⟨⟨c :: t⟩⟩ 0 = (c.toNat : Int) := (bt_drop (l := c :: t) (i := 0) rfl).1
    by_cases e : (c.toNat : Int) = 91
    · have hc : c = 91 := u8_eq (n := 91) e (by omega)
      have hneg : (1 < ((c :: t).length : Int) ∧ bt ⟨⟨c :: t⟩⟩ 1 = 94) ↔ t.head? = some 94 := by
        cases t with
        | nil => simp
        | cons d u =>
          have hb1 : bt ⟨⟨c :: d :: u⟩⟩ 1 = (d.toNat : Int) := (bt_drop (l := c :: d :: u) (i := 1) rfl).1
          rw [hb1]
          constructor
          · intro h
            rw [u8_eq (n := 94) h.2 (by omega)]
            rfl
          · intro h
            have hd : d = 94 := by simpa using h
            exact ⟨by simp only [List.length_cons]; omega, by rw [hd]; rfl⟩
      have hhead : ((c :: t).drop 1).head? = t.head? := rfl
      unfold brV
      rw [if_neg (by rw [hc]; simp), hhead]
      have main : ∀ neg : Bool, neg = decide (t.head? = some 94) → Ev (fun k => bracket_Bracket.f k ⟨⟨c :: t⟩⟩ flags) (let F := if neg then 2 else 1; let q := brL ((c :: t).length + 1) ((c :: t).drop F) true F []; if q.2.2 ≠ 0 then q else ((madeL neg (foldB flags) (q.1.map ofRg)).map toRg, q.2.1 + 1, 0)) := by
        intro neg hn
        obtain ⟨F, hF, hFn, hF2⟩ : ∃ F : Nat, (if neg then 2 else 1) = F ∧ (neg = true ↔ t.head? = some 94) ∧ F ≤ (c :: t).length := by
          cases neg with
          | true =>
            have h94 : t.head? = some 94 := of_decide_eq_true hn.symm
            refine ⟨2, rfl, ⟨fun _ => h94, fun _ => rfl⟩, ?_⟩
            cases t with
            | nil => cases h94
            | cons d u => simp
          | false => exact ⟨1, rfl, ⟨fun h => (by cases h), fun h => by rw [decide_eq_true h] at hn; cases hn⟩, by simp⟩
        simp only [hF]
        have hl0 := br_ev (c :: t) hs F ((c :: t).length + 1) ((c :: t).drop F) F true [] rfl (by rw [List.length_drop]; omega) hF2 (Nat.le_refl _) ⟨fun _ => rfl, fun _ => rfl⟩ (by simp)
        have hlen := brL_len ((c :: t).length + 1) ((c :: t).drop F) true F [] (by simp; omega) (by omega)
        rw [List.length_drop] at hlen
        generalize brL ((c :: t).length + 1) ((c :: t).drop F) true F [] = q at hl0 hlen ⊢
        have h0 : ∀ k, bracket_Bracket.f k ⟨⟨c :: t⟩⟩ flags = (bracket_Bracket.l0 k ⟨⟨c :: t⟩⟩ F F []).bind fun q => if q.2.2 ≠ 0 then some q else (if (Go.bits .and .i64 flags 1) ≠ 0 then fold_Close.f q.1 else some q.1).bind fun a => (if neg = true then ranges_Not.f k a else some a).bind fun b => (ranges_Norm.f k b).bind fun c => some (c, q.2.1 + 1, 0) := fun k => by
          have hiff : (1 < ((c :: t).length : Int) ∧ bt ⟨⟨c :: t⟩⟩ 1 = 94) ↔ neg = true := hneg.trans hFn.symm
          unfold bracket_Bracket.f
          rw [z, if_pos (by omega), tl, if_neg (by simp), hb, if_neg (by omega)]
          simp only [hiff]
          rw [show (if neg = true then 2 else 1) = F from hF]
        refine Ev.congr h0 (Ev.bind hl0 ?_)
        obtain ⟨q1, q2, q3⟩ := q
        dsimp only at hlen ⊢
        by_cases e3 : q3 ≠ 0
        · simp only [if_pos e3]
          exact Ev.now _
        · simp only [if_neg e3]
          have hq : q1.length ≤ 100000 := by simp only [List.length_cons] at hs hlen hF2; omega
          unfold madeL foldB
          have hcl : (if (Go.bits .and .i64 flags 1) ≠ 0 then fold_Close.f q1 else some q1) = some ((if decide (Go.bits .and .i64 flags 1 ≠ 0) = true then closeL (q1.map ofRg) else q1.map ofRg).map toRg) := by
            by_cases ef : (Go.bits .and .i64 flags 1) ≠ 0
            · rw [if_pos ef, if_pos (decide_eq_true ef)]
              unfold fold_Close.f
              rw [if_pos hq]
            · rw [if_neg ef, if_neg (by rw [decide_eq_true_eq]; exact ef), map_back]
          rw [hcl]
          have hA : (if decide (Go.bits .and .i64 flags 1 ≠ 0) = true then closeL (q1.map ofRg) else q1.map ofRg).length ≤ 200000 := by
            have := close_len (q1.map ofRg)
            split
            · rw [List.length_map] at this; omega
            · rw [List.length_map]; omega
          generalize (if decide (Go.bits .and .i64 flags 1 ≠ 0) = true then closeL (q1.map ofRg) else q1.map ofRg) = A at hA ⊢
          simp only [Option.bind_some]
          cases neg with
          | true =>
            simp only [if_true]
            have hNot := not_ev (A.map toRg) (by rw [List.length_map]; omega)
            rw [map_forth] at hNot
            refine Ev.bind hNot ?_
            have hN := norm_ev ((notL A).map toRg) (by rw [List.length_map]; have := notL_len A; omega)
            rw [map_forth] at hN
            exact Ev.bind hN (Ev.now _)
          | false =>
            simp only [Bool.false_eq_true, if_false, Option.bind_some]
            have hN := norm_ev (A.map toRg) (by rw [List.length_map]; omega)
            rw [map_forth] at hN
            exact Ev.bind hN (Ev.now _)
      exact main _ rfl
    · unfold brV
      rw [if_pos (by simp; intro h; exact e (by rw [h]; rfl))]
      exact ev_const fun k => by
        unfold bracket_Bracket.f
        rw [z, if_pos (by omega), tl, if_neg (by simp), hb, if_pos e]
theorem brV_plain {t : List UInt8} (flags : Int) (h : t.head? ≠ some 94) {q : List S36 × Int × Int} (hq : brL (t.length + 1 + 1) t true 1 [] = q) : brV (91 :: t) flags = if q.2.2 ≠ 0 then q else ((madeL false (foldB flags) (q.1.map ofRg)).map toRg, q.2.1 + 1, 0) := by
  unfold brV
  rw [if_neg (by simp)]
  have hd : decide (((91 :: t).drop 1).head? = some 94) = false := decide_eq_false h
  rw [hd]
  have e : brL ((91 :: t).length + 1) ((91 :: t).drop (if false = true then 2 else 1)) true ((if false = true then 2 else 1 : Nat) : Int) [] = q := hq
  simp only [e]
theorem brV_lacks {t : List UInt8} (flags : Int) {q : List S36 × Int × Int} (hq : brL (t.length + 1 + 1 + 1) t true 2 [] = q) : brV (91 :: 94 :: t) flags = if q.2.2 ≠ 0 then q else ((madeL true (foldB flags) (q.1.map ofRg)).map toRg, q.2.1 + 1, 0) := by
  unfold brV
  rw [if_neg (by simp)]
  have hd : decide (((91 :: 94 :: t).drop 1).head? = some (94 : UInt8)) = true := decide_eq_true rfl
  rw [hd]
  subst hq
  rfl
theorem madeL_len (neg fold : Bool) (l : List (Int × Int)) : (madeL neg fold l).length ≤ l.length + 501 := by
  unfold madeL
  have h1 := close_len l
  have key : ∀ A : List (Int × Int), (normL A).length ≤ A.length := normL_len
  have h2 : (if fold then closeL l else l).length ≤ l.length + 500 := by split <;> omega
  generalize (if fold then closeL l else l) = A at h2
  have h3 := notL_len A
  have h4 := key (if neg then notL A else A)
  have h5 : (if neg then notL A else A).length ≤ A.length + 1 := by split <;> omega
  omega
theorem brV_len (s : List UInt8) (flags : Int) (hs : s.length ≤ 249) : (brV s flags).1.length ≤ 200000 := by
  have hb : ∀ (f F : Nat) (l : List UInt8), F ≤ 2 → l.length ≤ 249 → (brL f l true F []).1.length ≤ 110000 := by
    intro f F l hF hl
    have := brL_len f l true F [] (by simp; omega) (by omega)
    omega
  have hm : ∀ (neg : Bool) (q : List S36 × Int × Int), q.1.length ≤ 110000 → (if q.2.2 ≠ 0 then q else ((madeL neg (foldB flags) (q.1.map ofRg)).map toRg, q.2.1 + 1, 0)).1.length ≤ 200000 := by
    intro neg q hq
    split
    · omega
    · have := madeL_len neg (foldB flags) (q.1.map ofRg)
      rw [List.length_map] at this ⊢
      omega
  match s, hs with
  | [], _ => simp [brV]
  | c :: t, hs =>
    simp only [List.length_cons] at hs
    by_cases hc : c = 91
    · subst hc
      by_cases ht : t.head? = some 94
      · obtain ⟨w, rfl⟩ : ∃ w, t = 94 :: w := by
          cases t with
          | nil => cases ht
          | cons d w => exact ⟨w, by rw [show d = 94 by simpa using ht]⟩
        simp only [List.length_cons] at hs
        rw [brV_lacks flags rfl]
        exact hm true _ (hb _ 2 w (by omega) (by omega))
      · rw [brV_plain flags ht rfl]
        exact hm false _ (hb _ 1 t (by omega) (by omega))
    · have hb : brV (c :: t) flags = ([], 0, 3) := by unfold brV; rw [if_pos (by simpa using hc)]
      rw [hb]
      simp
theorem long_local : ∀ (a b c : List UInt8) (i : Nat) (r x : Int), 0 ≤ r → r < 16 ^ (i - 3) → 3 ≤ i → hexLongV (a ++ b) i r = (x, ((i + a.length : Nat) : Int), 0) → hexLongV (a ++ c) i r = (x, ((i + a.length : Nat) : Int), 0)
  | [], b, c, i, r, x, h0, h1, h3, h => by
    have := long_out b i r h0 h1 h3 (by rw [List.nil_append] at h; rw [h])
    rw [List.nil_append] at h
    rw [h] at this
    simp only [List.length_nil] at this
    omega
  | y :: a, b, c, i, r, x, h0, h1, h3, h => by
    have hd := digV_in y.toNat
    rw [List.cons_append] at h ⊢
    unfold hexLongV at h ⊢
    split at h
    · rename_i g
      rw [if_pos g]
      exact h
    split at h
    · simp at h
    · rename_i g1 g2
      rw [if_neg g1, if_neg g2]
      have e : ((i + (y :: a).length : Nat) : Int) = ((i + 1 + a.length : Nat) : Int) := by rw [List.length_cons]; omega
      rw [e] at h ⊢
      exact long_local a b c (i + 1) _ x (by omega) (by rw [show i + 1 - 3 = (i - 3) + 1 by omega, Int.pow_succ]; omega) (by omega) h
theorem short_local (a b c : List UInt8) (x : Int) (ha : a.length = 2) (h : hexShortV (a ++ b) = (x, 4, 0)) : hexShortV (a ++ c) = (x, 4, 0) := by
  match a, ha with
  | [p, q], _ => exact h
theorem esc_local (a b c : List UInt8) (x : Int) (h : escV (a ++ b) = (x, (a.length : Int), 0)) : escV (a ++ c) = (x, (a.length : Int), 0) := by
  have ho := esc_out (a ++ b) (by rw [h])
  rw [h] at ho
  dsimp only at ho
  match a, h, ho with
  | [], h, ho => first | (simp at ho; done) | (simp at ho; omega)
  | [y], h, ho => first | (simp at ho; done) | (simp at ho; omega)
  | y :: d :: a, h, ho =>
    rw [List.cons_append, List.cons_append] at h ⊢
    simp only [escV] at h ⊢
    by_cases e : (y.toNat : Int) = 92
    · rw [if_pos e] at h ⊢
      cases hp : plainV (d.toNat : Int) with
      | some v => rw [hp] at h; exact h
      | none =>
        rw [hp] at h
        dsimp only at h ⊢
        by_cases e2 : (d.toNat : Int) = 120
        · rw [if_pos e2] at h ⊢
          cases a with
          | nil =>
            simp only [List.nil_append] at h
            by_cases e3 : b.head? = some 123
            · rw [if_pos e3] at h
              have := long_out b.tail 3 0 (by omega) (by decide) (by omega) (by rw [h])
              rw [h] at this
              first | (simp at this; done) | (simp at this; omega)
            · rw [if_neg e3] at h
              have := short_out b (by rw [h])
              rw [h] at this
              simp at this
          | cons f a =>
            have hh : ∀ t : List UInt8, (if (f :: t).head? = some 123 then hexLongV (f :: t).tail 3 0 else hexShortV (f :: t)) = if f = 123 then hexLongV t 3 0 else hexShortV (f :: t) := fun t => by
              by_cases e : f = 123
              · rw [if_pos e, if_pos (by rw [e]; rfl)]
                rfl
              · rw [if_neg e, if_neg (by simpa using e)]
            rw [List.cons_append, hh] at h ⊢
            by_cases e3 : f = 123
            · rw [if_pos e3] at h ⊢
              have e4 : ((y :: d :: f :: a).length : Int) = ((3 + a.length : Nat) : Int) := by simp only [List.length_cons]; omega
              rw [e4] at h ⊢
              exact long_local a b c 3 0 x (by omega) (by decide) (by omega) h
            · rw [if_neg e3] at h ⊢
              have hs := short_out (f :: (a ++ b)) (by rw [h])
              rw [h] at hs
              dsimp only at hs
              have hl : (f :: a).length = 2 := by simp only [List.length_cons] at hs ⊢; omega
              rw [hs.2.2.1] at h ⊢
              exact short_local (f :: a) b c x hl h
        · rw [if_neg e2] at h ⊢
          split at h
          · simp at h
          · rename_i g
            rw [if_neg g]
            exact h
    · rw [if_neg e] at h
      simp at h
theorem esc_bad (l : List UInt8) (h : (escV l).2.2 ≠ 0) : (escV l).1 = 0 ∧ (escV l).2.1 = 0 := by
  have hlong : ∀ (l : List UInt8) (i : Nat) (r : Int), (hexLongV l i r).2.2 ≠ 0 → (hexLongV l i r).1 = 0 ∧ (hexLongV l i r).2.1 = 0 := by
    intro l
    induction l with
    | nil => intro i r _; exact ⟨rfl, rfl⟩
    | cons c t ih =>
      intro i r h
      unfold hexLongV at h ⊢
      split
      · rename_i g; rw [if_pos g] at h; exact absurd rfl h
      · rename_i g
        rw [if_neg g] at h
        split
        · exact ⟨rfl, rfl⟩
        · rename_i g2; rw [if_neg g2] at h; exact ih _ _ h
  have hshort : ∀ l : List UInt8, (hexShortV l).2.2 ≠ 0 → (hexShortV l).1 = 0 ∧ (hexShortV l).2.1 = 0 := by
    intro l h
    match l with
    | [] => exact ⟨rfl, rfl⟩
    | [a] => simp only [hexShortV]; split <;> exact ⟨rfl, rfl⟩
    | a :: b :: t =>
      simp only [hexShortV] at h ⊢
      split
      · exact ⟨rfl, rfl⟩
      · rename_i g
        rw [if_neg g] at h
        split
        · exact ⟨rfl, rfl⟩
        · rename_i g2; rw [if_neg g2] at h; exact absurd rfl h
  match l with
  | [] => exact ⟨rfl, rfl⟩
  | [c] => simp only [escV]; split <;> exact ⟨rfl, rfl⟩
  | c :: d :: t =>
    simp only [escV] at h ⊢
    by_cases e : (c.toNat : Int) = 92
    · rw [if_pos e] at h ⊢
      cases hp : plainV (d.toNat : Int) with
      | some v => rw [hp] at h; exact absurd rfl h
      | none =>
        rw [hp] at h
        dsimp only at h ⊢
        by_cases e2 : (d.toNat : Int) = 120
        · rw [if_pos e2] at h ⊢
          by_cases e3 : t.head? = some 123
          · rw [if_pos e3] at h ⊢; exact hlong _ _ _ h
          · rw [if_neg e3] at h ⊢; exact hshort _ h
        · rw [if_neg e2] at h ⊢
          split
          · exact ⟨rfl, rfl⟩
          · rename_i g; rw [if_neg g] at h; exact absurd rfl h
    · rw [if_neg e]
      exact ⟨rfl, rfl⟩
theorem cutL_local (x : UInt8) : ∀ (a b c : List UInt8), (cutL x (a ++ b)).2 ≠ none → (cutL x (a ++ b)).1.length + 1 = a.length → (cutL x (a ++ c)).1 = (cutL x (a ++ b)).1 ∧ (cutL x (a ++ c)).2 ≠ none
  | [], b, c, h, hl => by simp at hl
  | y :: a, b, c, h, hl => by
    rw [List.cons_append] at h hl ⊢
    rw [List.cons_append]
    unfold cutL at h hl ⊢
    by_cases e : y = x
    · simp only [if_pos e]
      exact ⟨trivial, by simp⟩
    · simp only [if_neg e, List.length_cons] at h hl ⊢
      obtain ⟨h1, h2⟩ := cutL_local x a b c h (by omega)
      exact ⟨by rw [h1], h2⟩
theorem set_local (a b c : List UInt8) (L : List S36) (h : setV (a ++ b) = (L, (a.length : Int), 0)) : setV (a ++ c) = (L, (a.length : Int), 0) := by
  have ho := set_out (a ++ b) (by rw [h])
  rw [h] at ho
  dsimp only at ho
  match a, h, ho with
  | [], h, ho => first | (simp at ho; done) | (simp at ho; omega)
  | [y], h, ho => first | (simp at ho; done) | (simp at ho; omega)
  | y :: d :: a, h, ho =>
    rw [List.cons_append, List.cons_append] at h ⊢
    simp only [setV] at h ⊢
    by_cases e : (y.toNat : Int) = 92
    · rw [if_pos e] at h ⊢
      by_cases e1 : isLet d.toNat = true
      · rw [if_pos e1] at h ⊢
        exact h
      · rw [if_neg e1] at h ⊢
        by_cases e2 : (d.toNat : Int) = 112 ∨ (d.toNat : Int) = 80
        · rw [if_pos e2] at h ⊢
          cases a with
          | nil =>
            exfalso
            simp only [List.nil_append] at h
            cases b with
            | nil => simp [propV] at h
            | cons f v =>
              simp only [propV] at h
              by_cases e3 : (f.toNat : Int) = 123
              · rw [if_pos e3] at h
                cases hq : (cutL 125 v).2 with
                | none => rw [hq] at h; simp at h
                | some z =>
                  rw [hq] at h
                  dsimp only at h
                  have := pro_out _ _ _ (by rw [h])
                  rw [h] at this
                  first | (simp at this; done) | (simp at this; omega)
              · rw [if_neg e3] at h
                by_cases e4 : letB f.toNat = true
                · rw [if_pos e4] at h
                  have := pro_out _ _ _ (by rw [h])
                  rw [h] at this
                  simp at this
                · rw [if_neg e4] at h
                  simp at h
          | cons f a =>
            simp only [List.cons_append, propV] at h ⊢
            by_cases e3 : (f.toNat : Int) = 123
            · rw [if_pos e3] at h ⊢
              cases hq : (cutL 125 (a ++ b)).2 with
              | none => rw [hq] at h; simp at h
              | some z =>
                rw [hq] at h
                dsimp only at h
                have := pro_out _ _ _ (by rw [h])
                rw [h] at this
                simp only [List.length_cons] at this
                obtain ⟨h1, h2⟩ := cutL_local 125 a b c (by rw [hq]; simp) (by omega)
                cases hq2 : (cutL 125 (a ++ c)).2 with
                | none => exact absurd hq2 h2
                | some z2 =>
                  dsimp only
                  rw [h1]
                  exact h
            · rw [if_neg e3] at h ⊢
              exact h
        · rw [if_neg e2] at h
          simp at h
    · rw [if_neg e] at h
      simp at h
theorem dec_local (a b c : List UInt8) (x : Int) (hx : ¬ x < 0) (h : decV ⟨⟨a ++ b⟩⟩ = (x, (a.length : Int))) : decV ⟨⟨a ++ c⟩⟩ = (x, (a.length : Int)) := by
  rcases decV_cases ⟨⟨a ++ b⟩⟩ with ⟨_, h1⟩ | ⟨_, h1, _⟩ | ⟨r, h1, h2, h3⟩
  · rw [h1] at h; exact absurd (by have := congrArg Prod.fst h; simp at this; omega) hx
  · rw [h1] at h; exact absurd (by have := congrArg Prod.fst h; simp at this; omega) hx
  · rw [h3] at h
    obtain ⟨e1, e2⟩ := Prod.mk.inj h
    subst e1
    have hn : widthF r = a.length := by omega
    rw [hn] at h2
    have hst : Starts ⟨⟨a ++ c⟩⟩ a.length r := by
      refine ⟨by rw [sz, List.length_append]; omega, ?_⟩
      rw [← h2.2]
      unfold bytesL
      apply List.map_congr_left
      intro i hi
      have hi := List.mem_range.1 hi
      unfold byteI
      rw [dif_pos (by rw [sz, List.length_append]; omega), dif_pos (by rw [sz, List.length_append]; omega)]
      congr 2
      show (a ++ c)[i]'(by rw [List.length_append]; omega) = (a ++ b)[i]'(by rw [List.length_append]; omega)
      rw [List.getElem_append_left hi, List.getElem_append_left hi]
    rw [decV_starts hn (by omega) hst]
theorem one_local (a b c : List UInt8) (x : Int) (h : oneV (a ++ b) = (x, (a.length : Int), 0)) : oneV (a ++ c) = (x, (a.length : Int), 0) := by
  have ho := one_out (a ++ b) (by rw [h])
  rw [h] at ho
  dsimp only at ho
  cases a with
  | nil => first | (simp at ho; done) | (simp at ho; omega)
  | cons y a =>
    rw [List.cons_append] at h ⊢
    simp only [oneV] at h ⊢
    by_cases e : (y.toNat : Int) = 92
    · rw [if_pos e] at h ⊢
      exact esc_local (y :: a) b c x h
    · rw [if_neg e] at h ⊢
      by_cases e2 : (decV ⟨⟨y :: (a ++ b)⟩⟩).1 < 0
      · rw [if_pos e2] at h; simp at h
      · rw [if_neg e2] at h
        have hd : decV ⟨⟨(y :: a) ++ b⟩⟩ = (x, ((y :: a).length : Int)) := Prod.ext (by have := congrArg Prod.fst h; exact this) (by have := congrArg (fun q => q.2.1) h; exact this)
        have := dec_local (y :: a) b c x (by omega) hd
        rw [List.cons_append] at this
        rw [this, if_neg (by dsimp only; omega)]
/-- That a number stands there and no set: seen from its bytes alone. -/
theorem none_local (a b c : List UInt8) (x : Int) (h : oneV (a ++ b) = (x, (a.length : Int), 0)) (hs : (setV (a ++ b)).2.2 = 5 ∨ (setV (a ++ b)).2.2 = 3) : (setV (a ++ c)).2.2 = (setV (a ++ b)).2.2 := by
  have ho := one_out (a ++ b) (by rw [h])
  rw [h] at ho
  dsimp only at ho
  have bad : ∀ (y : UInt8) (t : List UInt8), ¬ (y.toNat : Int) = 92 → (setV (y :: t)).2.2 = 3 := by
    intro y t hy
    cases t with
    | nil => simp only [setV]; rw [if_neg hy]
    | cons d v => simp only [setV]; rw [if_neg hy]
  match a, h, ho, hs with
  | [], h, ho, hs => first | (simp at ho; done) | (simp at ho; omega)
  | [y], h, ho, hs =>
    rw [List.cons_append, List.cons_append]
    by_cases e : (y.toNat : Int) = 92
    · exfalso
      rw [List.cons_append] at h
      simp only [oneV] at h
      rw [if_pos e] at h
      have := esc_out (y :: ([] ++ b)) (by rw [h])
      rw [h] at this
      first | (simp at this; done) | (simp at this; omega)
    · rw [bad _ _ e, bad _ _ e]
  | y :: d :: a, h, ho, hs =>
    rw [List.cons_append, List.cons_append, List.cons_append, List.cons_append]
    by_cases e : (y.toNat : Int) = 92
    · rw [List.cons_append, List.cons_append] at hs
      simp only [setV] at hs ⊢
      rw [if_pos e] at hs ⊢
      rw [if_pos e]
      have hd := u8_in d
      by_cases e1 : isLet d.toNat = true
      · rw [if_pos e1, if_pos e1]
      · rw [if_neg e1] at hs ⊢
        rw [if_neg e1]
        by_cases e2 : (d.toNat : Int) = 112 ∨ (d.toNat : Int) = 80
        · exfalso
          rw [if_pos e2] at hs
          have h2 : ∀ (neg : Bool) (nm : List UInt8) (n : Int), (proV neg nm n).2.2 = 0 ∨ (proV neg nm n).2.2 = 70 := by
            intro neg nm n
            unfold proV
            split
            · exact .inl rfl
            · exact .inr rfl
          have h3 : ∀ (neg : Bool) (t : List UInt8), (propV neg t).2.2 = 0 ∨ (propV neg t).2.2 = 70 ∨ (propV neg t).2.2 = 82 := by
            intro neg t
            cases t with
            | nil => exact .inr (.inr rfl)
            | cons f v =>
              simp only [propV]
              split
              · split
                · exact .inr (.inr rfl)
                · rcases h2 neg (cutL 125 v).1 (((cutL 125 v).1.length : Int) + 4) with h | h
                  · exact .inl h
                  · exact .inr (.inl h)
              · split
                · rcases h2 neg [f] 3 with h | h
                  · exact .inl h
                  · exact .inr (.inl h)
                · exact .inr (.inl rfl)
          have := h3 (decide ((d.toNat : Int) = 80)) (a ++ b)
          omega
        · rw [if_neg e2, if_neg e2]
    · rw [bad _ _ e, bad _ _ e]
theorem occ_local (a b c sub : List UInt8) (j : Nat) (h : j + sub.length ≤ a.length) : Lib.occAt (a ++ c) sub j = Lib.occAt (a ++ b) sub j := by
  unfold Lib.occAt
  rw [List.drop_append_of_le_length (by omega), List.drop_append_of_le_length (by omega)]
  have hl : sub.length ≤ (a.drop j).length := by rw [List.length_drop]; omega
  rw [Bool.eq_iff_iff, List.isPrefixOf_iff_prefix, List.isPrefixOf_iff_prefix]
  constructor
  · intro h
    exact (List.prefix_of_prefix_length_le h (List.prefix_append _ c) hl).trans (List.prefix_append _ b)
  · intro h
    exact (List.prefix_of_prefix_length_le h (List.prefix_append _ b) hl).trans (List.prefix_append _ c)
theorem cut_local (a b c sep : List UInt8) (h : (Lib.cut (a ++ b) sep).2.2 = true) (hl : (Lib.cut (a ++ b) sep).1.length + sep.length ≤ a.length) : (Lib.cut (a ++ c) sep).2.2 = true ∧ (Lib.cut (a ++ c) sep).1 = (Lib.cut (a ++ b) sep).1 := by
  unfold Lib.cut at h hl ⊢
  by_cases g : 0 ≤ Lib.index (a ++ b) sep
  · rw [if_pos g] at hl
    rw [if_pos g]
    rcases Lib.index_spec (a ++ b) sep with ⟨e, _⟩ | ⟨i, e, hi, ho, hno⟩
    · rw [e] at g; exact absurd g (by decide)
    · rw [e] at hl
      simp only [Int.toNat_natCast, List.length_take] at hl
      have hia : i + sep.length ≤ a.length := by
        have : min i (a ++ b).length = i := by omega
        omega
      have hix : Lib.index (a ++ c) sep = i := by
        refine Lib.index_first (by rw [List.length_append]; omega) (by rw [occ_local a b c sep i hia]; exact ho) (fun j hj => ?_)
        rw [occ_local a b c sep j (by omega)]
        exact hno j hj
      rw [hix, e, if_pos (by omega)]
      refine ⟨rfl, ?_⟩
      simp only [Int.toNat_natCast]
      rw [List.take_append_of_le_length (by omega), List.take_append_of_le_length (by omega)]
  · rw [if_neg g] at h
    cases h
theorem span_local (lo n : Int) (u v t : List UInt8) (h : (spanV lo n (u ++ v)).2.2 = 0) (hl : (spanV lo n (u ++ v)).2.1 ≤ n + 1 + u.length) : spanV lo n (u ++ t) = spanV lo n (u ++ v) := by
  unfold spanV at h hl ⊢
  by_cases e1 : (setV (u ++ v)).2.2 ≠ 5 ∧ (setV (u ++ v)).2.2 ≠ 3
  · rw [if_pos e1] at h; simp at h
  rw [if_neg e1] at h hl
  by_cases e2 : (oneV (u ++ v)).2.2 ≠ 0
  · rw [if_pos e2] at h; exact absurd h e2
  rw [if_neg e2] at h hl
  by_cases e3 : (oneV (u ++ v)).1 < lo
  · rw [if_pos e3] at h; simp at h
  rw [if_neg e3] at hl
  have ho := one_out (u ++ v) (Decidable.not_not.1 e2)
  obtain ⟨m, hm⟩ : ∃ m : Nat, (oneV (u ++ v)).2.1 = m := ⟨(oneV (u ++ v)).2.1.toNat, by omega⟩
  dsimp only at hl
  have hmu : m ≤ u.length := by omega
  have huv : u ++ v = u.take m ++ (u.drop m ++ v) := by rw [← List.append_assoc, List.take_append_drop]
  have hut : u ++ t = u.take m ++ (u.drop m ++ t) := by rw [← List.append_assoc, List.take_append_drop]
  have hlen : ((u.take m).length : Int) = m := by rw [List.length_take]; omega
  have hone : oneV (u.take m ++ (u.drop m ++ v)) = ((oneV (u ++ v)).1, ((u.take m).length : Int), 0) := by
    rw [← huv, hlen, ← hm]
    exact Prod.ext rfl (Prod.ext rfl (Decidable.not_not.1 e2))
  have h1 := one_local _ _ (u.drop m ++ t) _ hone
  have h2 := none_local _ _ (u.drop m ++ t) _ hone (by rw [← huv]; omega)
  rw [← hut] at h1 h2
  rw [← huv] at h2 hone
  have hone' : oneV (u ++ t) = oneV (u ++ v) := h1.trans hone.symm
  rw [if_neg (by rw [h2]; exact e1), if_neg e1, hone']
theorem tail_local (lo n : Int) (u v t : List UInt8) (h : (tailV lo n (u ++ 93 :: v)).2.2 = 0) (hl : (tailV lo n (u ++ 93 :: v)).2.1 ≤ n + u.length) : tailV lo n (u ++ 93 :: t) = tailV lo n (u ++ 93 :: v) := by
  have single : ∀ w : List UInt8, tailV lo n (93 :: w) = ([⟨lo, lo⟩], n, 0) := by
    intro w
    cases w with
    | nil => rfl
    | cons b w => simp only [tailV]; rw [if_neg (by simp)]
  match u, h, hl with
  | [], _, _ => rw [List.nil_append, List.nil_append, single, single]
  | [x], _, _ =>
    rw [List.cons_append, List.cons_append, List.nil_append, List.nil_append]
    simp only [tailV]
    rw [if_neg (fun h => h.2 rfl), if_neg (fun h => h.2 rfl)]
  | x :: y :: u, h, hl =>
    rw [List.cons_append, List.cons_append] at h hl ⊢
    rw [List.cons_append, List.cons_append]
    simp only [tailV] at h hl ⊢
    by_cases e : x = 45 ∧ y ≠ 93
    · rw [if_pos e] at h hl ⊢
      rw [if_pos e]
      have := span_local lo n (y :: u) (93 :: v) (93 :: t) h (by rw [List.cons_append]; simp only [List.length_cons] at hl ⊢; omega)
      rw [List.cons_append, List.cons_append] at this
      exact this
    · rw [if_neg e, if_neg e]
/-- An item is read alike, whatever stands behind the bracket that closes. -/
theorem item_local (u v t : List UInt8) (h : (itemV (u ++ 93 :: v)).2.2 = 0) (hl : (itemV (u ++ 93 :: v)).2.1 ≤ u.length) : itemV (u ++ 93 :: t) = itemV (u ++ 93 :: v) := by
  have ho := item_out _ h
  have htake : (u ++ 93 :: t).take 2 = [91, 58] ↔ (u ++ 93 :: v).take 2 = [91, 58] := by
    match u with
    | [] => simp
    | [x] => simp
    | x :: y :: u => simp
  unfold itemV at h hl ho ⊢
  by_cases e : (u ++ 93 :: v).take 2 = [91, 58]
  · rw [if_pos e] at h hl ⊢
    rw [if_pos (htake.2 e)]
    by_cases e2 : (colCut (u ++ 93 :: v)).2.2 = true
    · rw [if_pos e2] at h hl ⊢
      by_cases e3 : (turnV colTab (colCut (u ++ 93 :: v)).1).2 = 0
      · rw [if_pos e3] at hl
        dsimp only at hl
        have hu : 2 ≤ u.length := by omega
        have hd : ∀ w : List UInt8, (u ++ w).drop 2 = u.drop 2 ++ w := fun w => List.drop_append_of_le_length hu
        have hcl := cut_local (u.drop 2) (93 :: v) (93 :: t) [58, 93] (by rw [← hd]; exact e2) (by rw [← hd]; show (colCut (u ++ 93 :: v)).1.length + 2 ≤ _; rw [List.length_drop]; omega)
        rw [← hd, ← hd] at hcl
        have h1 : (colCut (u ++ 93 :: t)).2.2 = true := hcl.1
        have h2 : (colCut (u ++ 93 :: t)).1 = (colCut (u ++ 93 :: v)).1 := hcl.2
        rw [if_pos h1, h2]
      · rw [if_neg e3] at h; simp at h
    · rw [if_neg e2] at h; simp at h
  · rw [if_neg e] at h hl ho ⊢
    rw [if_neg (fun hh => e (htake.1 hh))]
    by_cases e1 : (setV (u ++ 93 :: v)).2.2 = 0
    · rw [if_pos e1] at h hl ⊢
      have hso := set_out _ e1
      obtain ⟨m, hm⟩ : ∃ m : Nat, (setV (u ++ 93 :: v)).2.1 = m := ⟨(setV (u ++ 93 :: v)).2.1.toNat, by omega⟩
      have hmu : m ≤ u.length := by omega
      have huv : u ++ 93 :: v = u.take m ++ (u.drop m ++ 93 :: v) := by rw [← List.append_assoc, List.take_append_drop]
      have hut : u ++ 93 :: t = u.take m ++ (u.drop m ++ 93 :: t) := by rw [← List.append_assoc, List.take_append_drop]
      have hlen : ((u.take m).length : Int) = m := by rw [List.length_take]; omega
      have hs := set_local (u.take m) (u.drop m ++ 93 :: v) (u.drop m ++ 93 :: t) (setV (u ++ 93 :: v)).1 (by
        rw [← huv, hlen, ← hm]
        exact Prod.ext rfl (Prod.ext rfl e1))
      rw [← hut, hlen, ← hm] at hs
      have hs' : setV (u ++ 93 :: t) = setV (u ++ 93 :: v) := hs.trans (Prod.ext rfl (Prod.ext rfl e1.symm))
      rw [hs', if_pos e1]
    · rw [if_neg e1] at h hl ho ⊢
      by_cases e2 : (setV (u ++ 93 :: v)).2.2 ≠ 5 ∧ (setV (u ++ 93 :: v)).2.2 ≠ 3
      · rw [if_pos e2] at h; exact absurd h e1
      · rw [if_neg e2] at h hl ho ⊢
        by_cases e3 : (oneV (u ++ 93 :: v)).2.2 ≠ 0
        · rw [if_pos e3] at h; exact absurd h e3
        · rw [if_neg e3] at h hl ho ⊢
          have hoo := one_out (u ++ 93 :: v) (Decidable.not_not.1 e3)
          obtain ⟨m, hm⟩ : ∃ m : Nat, (oneV (u ++ 93 :: v)).2.1 = m := ⟨(oneV (u ++ 93 :: v)).2.1.toNat, by omega⟩
          have hto := tail_out _ _ _ h
          have hmu : m ≤ u.length := by omega
          have huv : u ++ 93 :: v = u.take m ++ (u.drop m ++ 93 :: v) := by rw [← List.append_assoc, List.take_append_drop]
          have hut : u ++ 93 :: t = u.take m ++ (u.drop m ++ 93 :: t) := by rw [← List.append_assoc, List.take_append_drop]
          have hlen : ((u.take m).length : Int) = m := by rw [List.length_take]; omega
          have hone : oneV (u.take m ++ (u.drop m ++ 93 :: v)) = ((oneV (u ++ 93 :: v)).1, ((u.take m).length : Int), 0) := by
            rw [← huv, hlen, ← hm]
            exact Prod.ext rfl (Prod.ext rfl (Decidable.not_not.1 e3))
          have h1 := one_local _ _ (u.drop m ++ 93 :: t) _ hone
          have h2 := none_local _ _ (u.drop m ++ 93 :: t) _ hone (by rw [← huv]; omega)
          rw [← hut] at h1 h2
          rw [← huv] at h2 hone
          have hone' : oneV (u ++ 93 :: t) = oneV (u ++ 93 :: v) := h1.trans hone.symm
          rw [h2, if_neg e1, if_neg e2, hone', if_neg e3]
          rw [hm] at h hl ⊢
          have hdv : (u ++ 93 :: v).drop ((m : Nat) : Int).toNat = u.drop m ++ 93 :: v := List.drop_append_of_le_length hmu
          have hdt : (u ++ 93 :: t).drop ((m : Nat) : Int).toNat = u.drop m ++ 93 :: t := List.drop_append_of_le_length hmu
          rw [hdv] at h hl ⊢
          rw [hdt]
          exact tail_local _ _ (u.drop m) v t h (by rw [List.length_drop]; omega)
/-- What is collected ends at a closing bracket, and is so whatever stands behind. -/
theorem brL_local : ∀ (fuel : Nat) (l : List UInt8) (first : Bool) (at_ : Int) (acc A : List S36) (e : Int), brL fuel l first at_ acc = (A, e, 0) → ∃ u v, l = u ++ 93 :: v ∧ e = at_ + (u.length : Int) ∧ (first = true → 1 ≤ u.length) ∧ ∀ (t : List UInt8) (f2 : Nat), u.length < f2 → brL f2 (u ++ 93 :: t) first at_ acc = (A, e, 0)
  | 0, l, first, at_, acc, A, e, h => by simp [brL] at h
  | fuel + 1, l, first, at_, acc, A, e, h => by
    rw [brL] at h
    by_cases g : first = true ∨ (l ≠ [] ∧ l.head? ≠ some 93)
    · rw [if_pos g] at h
      by_cases e1 : (itemV l).2.2 ≠ 0
      · rw [if_pos e1] at h
        exact absurd (by have := congrArg (fun q => q.2.2) h; exact this) e1
      · rw [if_neg e1] at h
        have e1' := Decidable.not_not.1 e1
        have ho := item_out l e1'
        obtain ⟨n, hn⟩ : ∃ n : Nat, (itemV l).2.1 = n := ⟨(itemV l).2.1.toNat, by omega⟩
        rw [hn, Int.toNat_natCast] at h
        obtain ⟨u, v, hl, he, _, hall⟩ := brL_local fuel _ _ _ _ _ _ h
        have hll : l = (l.take n ++ u) ++ 93 :: v := by rw [List.append_assoc, ← hl, List.take_append_drop]
        have hnl : (l.take n).length = n := by rw [List.length_take]; omega
        refine ⟨l.take n ++ u, v, hll, by rw [he, List.length_append, hnl]; omega, fun _ => by rw [List.length_append, hnl]; omega, fun t f2 hf => ?_⟩
        rw [List.length_append, hnl] at hf
        obtain ⟨f3, rfl⟩ : ∃ f3, f2 = f3 + 1 := ⟨f2 - 1, by omega⟩
        have hit : itemV ((l.take n ++ u) ++ 93 :: t) = itemV l := by
          have := item_local (l.take n ++ u) v t (by rw [← hll]; exact e1') (by rw [← hll, List.length_append, hnl]; omega)
          rw [← hll] at this
          exact this
        have hne : 0 < (l.take n ++ u).length := by rw [List.length_append, hnl]; omega
        have g2 : first = true ∨ ((l.take n ++ u) ++ 93 :: t ≠ [] ∧ ((l.take n ++ u) ++ 93 :: t).head? ≠ some 93) := by
          rcases g with g | g
          · exact .inl g
          · refine .inr ⟨by simp, ?_⟩
            have hg := g.2
            rw [hll] at hg
            cases hq : l.take n ++ u with
            | nil => rw [hq] at hne; cases hne
            | cons x w => rw [hq] at hg; exact hg
        rw [brL, if_pos g2, hit, if_neg e1, hn, Int.toNat_natCast]
        have hdr : ((l.take n ++ u) ++ 93 :: t).drop n = u ++ 93 :: t := by
          rw [List.append_assoc, List.drop_append_of_le_length (by omega), List.drop_eq_nil_of_le (by omega), List.nil_append]
        rw [hdr]
        exact hall t f3 (by omega)
    · rw [if_neg g] at h
      by_cases e1 : l = []
      · rw [if_pos e1] at h; simp at h
      · rw [if_neg e1] at h
        simp only [Prod.mk.injEq] at h
        obtain ⟨rfl, rfl, _⟩ := h
        cases l with
        | nil => exact absurd rfl e1
        | cons c w =>
          have hc : c = 93 := Decidable.byContradiction fun hc => g (.inr ⟨e1, by simpa using hc⟩)
          subst hc
          have hf : first = false := by cases first with | true => exact absurd (.inl rfl) g | false => rfl
          subst hf
          refine ⟨[], w, rfl, by simp, fun h => (by cases h), fun t f2 hf => ?_⟩
          obtain ⟨f3, rfl⟩ : ∃ f3, f2 = f3 + 1 := ⟨f2 - 1, by omega⟩
          rw [List.nil_append, brL, if_neg (by simp), if_neg (by simp)]
theorem tail_err (lo n : Int) (l : List UInt8) (h0 : 0 ≤ n) (h : (tailV lo n l).2.2 ≠ 0) : 0 ≤ (tailV lo n l).2.1 ∧ (tailV lo n l).2.1 ≤ n + l.length := by
  match l with
  | [] => exact absurd rfl h
  | [a] => exact absurd rfl h
  | a :: b :: u =>
    simp only [tailV, List.length_cons] at h ⊢
    split at h
    · rename_i g
      rw [if_pos g]
      unfold spanV at h ⊢
      split
      · dsimp only; omega
      · split
        · dsimp only; omega
        · split
          · dsimp only; omega
          · rename_i g1 g2 g3
            rw [if_neg g1, if_neg g2, if_neg g3] at h
            exact absurd rfl h
    · exact absurd rfl h
theorem item_err (l : List UInt8) (h : (itemV l).2.2 ≠ 0) : 0 ≤ (itemV l).2.1 ∧ (itemV l).2.1 ≤ l.length := by
  unfold itemV at h ⊢
  by_cases e : l.take 2 = [91, 58]
  · rw [if_pos e] at h ⊢
    by_cases e2 : (colCut l).2.2 = true
    · rw [if_pos e2] at h ⊢
      by_cases e3 : (turnV colTab (colCut l).1).2 = 0
      · rw [if_pos e3] at h; exact absurd rfl h
      · rw [if_neg e3]; dsimp only; omega
    · rw [if_neg e2]; dsimp only; omega
  · rw [if_neg e] at h ⊢
    by_cases e1 : (setV l).2.2 = 0
    · rw [if_pos e1] at h; exact absurd e1 h
    · rw [if_neg e1] at h ⊢
      by_cases e2 : (setV l).2.2 ≠ 5 ∧ (setV l).2.2 ≠ 3
      · rw [if_pos e2]; dsimp only; omega
      · rw [if_neg e2] at h ⊢
        by_cases e3 : (oneV l).2.2 ≠ 0
        · rw [if_pos e3]; dsimp only; omega
        · rw [if_neg e3] at h ⊢
          have ho := one_out l (Decidable.not_not.1 e3)
          have := tail_err _ _ _ (by omega) h
          rw [List.length_drop] at this
          omega
theorem brL_err : ∀ (fuel : Nat) (l : List UInt8) (first : Bool) (at_ : Int) (acc : List S36), 0 ≤ at_ → l.length < fuel → (brL fuel l first at_ acc).2.2 ≠ 0 → (brL fuel l first at_ acc).1 = [] ∧ 0 ≤ (brL fuel l first at_ acc).2.1 ∧ (brL fuel l first at_ acc).2.1 ≤ at_ + l.length
  | 0, l, first, at_, acc, h0, hf, h => absurd hf (Nat.not_lt_zero _)
  | fuel + 1, l, first, at_, acc, h0, hf, h => by
    rw [brL] at h ⊢
    by_cases g : first = true ∨ (l ≠ [] ∧ l.head? ≠ some 93)
    · rw [if_pos g] at h ⊢
      by_cases e : (itemV l).2.2 ≠ 0
      · rw [if_pos e]
        have := item_err l e
        exact ⟨rfl, by dsimp only; omega, by dsimp only; omega⟩
      · rw [if_neg e] at h ⊢
        have ho := item_out l (Decidable.not_not.1 e)
        have := brL_err fuel (l.drop (itemV l).2.1.toNat) false (at_ + (itemV l).2.1) (acc ++ (itemV l).1) (by omega) (by rw [List.length_drop]; omega) h
        rw [List.length_drop] at this
        exact ⟨this.1, this.2.1, by omega⟩
    · rw [if_neg g] at h ⊢
      by_cases e : l = []
      · rw [if_pos e]
        exact ⟨rfl, h0, by dsimp only; omega⟩
      · rw [if_neg e] at h
        exact absurd rfl h
theorem brV_err (s : List UInt8) (flags : Int) (h : (brV s flags).2.2 ≠ 0) : (brV s flags).1 = [] ∧ 0 ≤ (brV s flags).2.1 ∧ (brV s flags).2.1 ≤ s.length := by
  match s with
  | [] => exact ⟨rfl, Int.le_refl 0, Int.le_refl 0⟩
  | c :: t =>
    by_cases hc : c = 91
    · subst hc
      by_cases ht : t.head? = some 94
      · obtain ⟨w, rfl⟩ : ∃ w, t = 94 :: w := by
          cases t with
          | nil => cases ht
          | cons d w => exact ⟨w, by rw [show d = 94 by simpa using ht]⟩
        have hb := brL_err (w.length + 1 + 1 + 1) w true 2 [] (by omega) (by omega)
        rw [brV_lacks flags rfl] at h ⊢
        split at h
        · rename_i g
          rw [if_pos g]
          have := hb g
          simp only [List.length_cons]
          exact ⟨this.1, this.2.1, by omega⟩
        · exact absurd rfl h
      · have hb := brL_err (t.length + 1 + 1) t true 1 [] (by omega) (by omega)
        rw [brV_plain flags ht rfl] at h ⊢
        split at h
        · rename_i g
          rw [if_pos g]
          have := hb g
          simp only [List.length_cons]
          exact ⟨this.1, this.2.1, by omega⟩
        · exact absurd rfl h
    · have hb : brV (c :: t) flags = ([], 0, 3) := by unfold brV; rw [if_pos (by simpa using hc)]
      rw [hb]
      exact ⟨rfl, by decide, by simp; omega⟩
/-- What is read between brackets ends there, and is read so whatever stands behind. -/
theorem brV_local (s : List UInt8) (flags : Int) (h : (brV s flags).2.2 = 0) : ∃ (m : List (Int × Int)) (n : Nat), brV s flags = (m.map toRg, (n : Int), 0) ∧ Nrm m ∧ 3 ≤ n ∧ n ≤ s.length ∧ (s.drop (n - 1)).head? = some 93 ∧ ∀ t, brV (s.take n ++ t) flags = (m.map toRg, (n : Int), 0) := by
  match s with
  | [] => exact absurd h (show (3 : Int) ≠ 0 by decide)
  | c :: w =>
    by_cases hc : c = 91
    · subst hc
      by_cases ht : w.head? = some 94
      · obtain ⟨w, rfl⟩ : ∃ w', w = 94 :: w' := by
          cases w with
          | nil => cases ht
          | cons d w => exact ⟨w, by rw [show d = 94 by simpa using ht]⟩
        obtain ⟨q, hq⟩ : ∃ q, brL (w.length + 1 + 1 + 1) w true 2 [] = q := ⟨_, rfl⟩
        rw [brV_lacks flags hq] at h ⊢
        by_cases g : q.2.2 ≠ 0
        · rw [if_pos g] at h; exact absurd h g
        · rw [if_neg g]
          obtain ⟨A, e, x⟩ := q
          obtain rfl : x = 0 := Decidable.not_not.1 g
          obtain ⟨u, v, rfl, rfl, hu, hall⟩ := brL_local _ _ _ _ _ _ _ hq
          have hu := hu rfl
          refine ⟨madeL true (foldB flags) (A.map ofRg), u.length + 3, by dsimp only; congr 2; omega, normL_nrm _, by omega, by simp only [List.length_cons, List.length_append]; omega, ?_, fun t => ?_⟩
          · rw [show u.length + 3 - 1 = (91 :: 94 :: u).length by simp, show (91 :: 94 :: (u ++ 93 :: v) : List UInt8) = (91 :: 94 :: u) ++ 93 :: v from rfl, List.drop_left]
            rfl
          · have htk : (91 :: 94 :: (u ++ 93 :: v) : List UInt8).take (u.length + 3) ++ t = 91 :: 94 :: (u ++ 93 :: t) := by
              rw [show (91 :: 94 :: (u ++ 93 :: v) : List UInt8) = ((91 :: 94 :: u) ++ [93]) ++ v by simp, show u.length + 3 = ((91 :: 94 :: u) ++ [93]).length by simp, List.take_left]
              simp
            rw [htk, brV_lacks flags (hall t _ (by simp only [List.length_append, List.length_cons]; omega)), if_neg (by simp)]
            dsimp only
            congr 2
            omega
      · obtain ⟨q, hq⟩ : ∃ q, brL (w.length + 1 + 1) w true 1 [] = q := ⟨_, rfl⟩
        rw [brV_plain flags ht hq] at h ⊢
        by_cases g : q.2.2 ≠ 0
        · rw [if_pos g] at h; exact absurd h g
        · rw [if_neg g]
          obtain ⟨A, e, x⟩ := q
          obtain rfl : x = 0 := Decidable.not_not.1 g
          obtain ⟨u, v, rfl, rfl, hu, hall⟩ := brL_local _ _ _ _ _ _ _ hq
          have hu := hu rfl
          refine ⟨madeL false (foldB flags) (A.map ofRg), u.length + 2, by dsimp only; congr 2; omega, normL_nrm _, by omega, by simp only [List.length_cons, List.length_append]; omega, ?_, fun t => ?_⟩
          · rw [show u.length + 2 - 1 = (91 :: u).length by simp, show (91 :: (u ++ 93 :: v) : List UInt8) = (91 :: u) ++ 93 :: v from rfl, List.drop_left]
            rfl
          · have htk : (91 :: (u ++ 93 :: v) : List UInt8).take (u.length + 2) ++ t = 91 :: (u ++ 93 :: t) := by
              rw [show (91 :: (u ++ 93 :: v) : List UInt8) = ((91 :: u) ++ [93]) ++ v by simp, show u.length + 2 = ((91 :: u) ++ [93]).length by simp, List.take_left]
              simp
            have hh : (u ++ 93 :: t).head? ≠ some 94 := by
              cases u with
              | nil => simp at hu
              | cons x u => exact ht
            rw [htk, brV_plain flags hh (hall t _ (by simp only [List.length_append, List.length_cons]; omega)), if_neg (by simp)]
            dsimp only
            congr 2
            omega
    · have hb : brV (c :: w) flags = ([], 0, 3) := by unfold brV; rw [if_pos (by simpa using hc)]
      rw [hb] at h
      exact absurd h (by decide)
def chk (p : Int) : List (Int × Int) → Int
  | [] => 0
  | x :: t => if x.1 < 0 ∨ x.1 > 1114111 ∨ x.2 < 0 ∨ x.2 > 1114111 then 1 else if x.1 > x.2 then 4 else if x.1 ≤ p + 1 then 4 else chk x.2 t
theorem chk_nrm : ∀ {l : List (Int × Int)} {p : Int}, Nrm l → (∀ x ∈ l, p + 1 < x.1) → chk p l = 0
  | [], _, _, _ => rfl
  | x :: t, p, h, hp => by
    have hx := h.inr x (by simp)
    have h1 := hp x (by simp)
    unfold chk
    rw [if_neg (by omega), if_neg (by omega), if_neg (by omega)]
    exact chk_nrm h.tail (fun y hy => (List.pairwise_cons.1 h.apart).1 y hy)
theorem check_l0 (s : List (Int × Int)) (hn : s.length ≤ 900000) (d : Nat) : ∀ (i : Nat) (p : Int), i ≤ s.length → s.length - i = d → -2 ≤ p → p ≤ 1114111 →
    Ev (fun k => ranges_Check.l0 k p (s.map toRg) (s.length : Int) i) (chk p (s.drop i)) := by
  induction d with
  | zero =>
    intro i p hi hd h0 h1
    have e : i = s.length := by omega
    subst e
    refine Ev.step (fun k => ?_) (Ev.now _)
    simp only [ranges_Check.l0]
    rw [if_neg (by omega), List.drop_of_length_le (Nat.le_refl _)]
    rfl
  | succ d ih =>
    intro i p hi hd h0 h1
    have hlt : i < s.length := by omega
    rw [List.drop_eq_getElem_cons hlt, chk]
    have hd : ∀ k, ranges_Check.l0 (k + 1) p (s.map toRg) (s.length : Int) i = ranges_Check.j1 k p (s.map toRg) (s.length : Int) i (decide (s[i].1 < 0 ∨ s[i].1 > 1114111 ∨ s[i].2 < 0 ∨ s[i].2 > 1114111)) s[i].1 s[i].2 := by
      intro k
      simp only [ranges_Check.l0]
      rw [if_pos (by omega), if_pos (by omega), if_pos (by simp; omega), rd_rg s i hlt]
      rw [show (toRg s[i]).f0 = s[i].1 from rfl, show (toRg s[i]).f1 = s[i].2 from rfl]
      by_cases x0 : s[i].1 < 0
      · rw [if_pos x0, decide_eq_true (by omega)]
      · rw [if_neg x0]
        by_cases x1 : s[i].1 > 1114111
        · rw [if_pos x1, decide_eq_true (by omega)]
        · rw [if_neg x1]
          by_cases x2 : s[i].2 < 0
          · rw [if_pos x2, decide_eq_true (by omega)]
          · rw [if_neg x2]
            by_cases x3 : s[i].2 > 1114111
            · rw [decide_eq_true x3, decide_eq_true (by omega)]
            · rw [decide_eq_false x3, decide_eq_false (by omega)]
    by_cases c1 : s[i].1 < 0 ∨ s[i].1 > 1114111 ∨ s[i].2 < 0 ∨ s[i].2 > 1114111
    · rw [if_pos c1]
      refine Ev.step hd (Ev.step (fun k => ?_) (Ev.now _))
      simp only [ranges_Check.j1]
      rw [decide_eq_true c1, if_pos rfl]
    · rw [if_neg c1]
      by_cases c2 : s[i].1 > s[i].2
      · rw [if_pos c2]
        refine Ev.step hd (Ev.step (fun k => ?_) (Ev.now _))
        simp only [ranges_Check.j1]
        rw [decide_eq_false c1, if_neg (by simp), if_pos c2]
      · rw [if_neg c2]
        by_cases c3 : s[i].1 ≤ p + 1
        · rw [if_pos c3]
          refine Ev.step hd (Ev.step (fun k => ?_) (Ev.now _))
          simp only [ranges_Check.j1]
          rw [decide_eq_false c1, if_neg (by simp), if_neg c2, wrap_rg (x := p + 1) (by omega) (by omega), if_pos c3]
        · rw [if_neg c3]
          refine Ev.step hd (Ev.step (fun k => ?_) (ih (i + 1) s[i].2 (by omega) (by omega) (by omega) (by omega)))
          simp only [ranges_Check.j1]
          rw [decide_eq_false c1, if_neg (by simp), if_neg c2, wrap_rg (x := p + 1) (by omega) (by omega), if_neg c3, wrap_rg (x := (i : Int) + 1) (by omega) (by omega), show (i : Int) + 1 = ((i + 1 : Nat) : Int) by omega]
theorem check_ev (s : List (Int × Int)) (hn : s.length ≤ 900000) : Ev (fun k => ranges_Check.f k (s.map toRg)) (chk (-2) s) := by
  have := check_l0 s hn _ 0 (-2) (Nat.zero_le _) rfl (by omega) (by omega)
  unfold ranges_Check.f
  simpa using this
set_option maxRecDepth 100000 in
theorem works_ev : Ev burinlaw07_works.f true := Ev.of burinlaw07_works.mono (k := 40) (by decide +kernel)
theorem check_nrm {s : List (Int × Int)} (hs : Nrm s) (hn : s.length ≤ 900000) : Ev (fun k => ranges_Check.f k (s.map toRg)) 0 := by
  have := check_ev s hn
  rwa [chk_nrm hs (fun x hx => by have := (hs.inr x hx).1; omega)] at this
theorem ex_take (l : List UInt8) (n : Nat) (t : List UInt8) : (ByteArray.mk ⟨l⟩).extract 0 n ++ ⟨⟨t⟩⟩ = ⟨⟨l.take n ++ t⟩⟩ := by
  rw [ex_list, app_list]
  rfl
theorem num_part (s t : List UInt8) (hs : s.length ≤ 100) (ht : t.length ≤ 100) : Ev (fun k => burinlaw07_BracketBehind.j2 k ⟨⟨s⟩⟩ ⟨⟨t⟩⟩) true := by
  obtain ⟨K1, h1⟩ := num_ev s (by omega)
  by_cases e : (escV s).2.2 = 0
  · have ho := esc_out s e
    obtain ⟨n, hn⟩ : ∃ n : Nat, (escV s).2.1 = n := ⟨(escV s).2.1.toNat, by omega⟩
    have hlen : (s.take n).length = n := by rw [List.length_take]; omega
    have hloc := esc_local (s.take n) (s.drop n) t (escV s).1 (by rw [List.take_append_drop, hlen, ← hn]; exact Prod.ext rfl (Prod.ext rfl e))
    obtain ⟨K2, h2⟩ := num_ev (s.take n ++ t) (by rw [List.length_append, hlen]; omega)
    refine ⟨K1 + K2 + 1, fun k hk => ?_⟩
    obtain ⟨m, rfl⟩ : ∃ m, k = m + 1 := ⟨k - 1, by omega⟩
    have q1 : bracket_Number.f m _ = _ := h1 m (by omega)
    have q2 : bracket_Number.f m _ = _ := h2 m (by omega)
    rw [hloc, hlen] at q2
    show burinlaw07_BracketBehind.j2 (m + 1) _ _ = _
    rw [burinlaw07_BracketBehind.j2, q1, Option.bind_some, if_pos e, hn, sz, if_neg (by omega), if_neg (by omega), if_pos (by omega), if_pos (by omega), Int.toNat_natCast, ex_take, q2, ex_list, sz, sz, if_pos (by rw [List.length_take]; omega), Option.bind_some]
    dsimp only
    rw [if_pos rfl, if_pos rfl, if_pos rfl, if_pos (by omega), decide_eq_true (by omega)]
  · have hb := esc_bad s e
    refine ⟨K1 + 1, fun k hk => ?_⟩
    obtain ⟨m, rfl⟩ : ∃ m, k = m + 1 := ⟨k - 1, by omega⟩
    have q1 : bracket_Number.f m _ = _ := h1 m (by omega)
    show burinlaw07_BracketBehind.j2 (m + 1) _ _ = _
    rw [burinlaw07_BracketBehind.j2, q1, Option.bind_some, if_neg e, if_pos hb.1, hb.2]
    rfl
theorem BracketBehind : burinlaw07_BracketBehind.Pure := by
  intro s t flags _ _ _
  obtain ⟨⟨s⟩⟩ := s
  obtain ⟨⟨t⟩⟩ := t
  have zs := sz s
  have zt := sz t
  obtain ⟨Kw, hw⟩ := works_ev
  have skip : ∀ k, burinlaw07_BracketBehind.j0 (k + 1) ⟨⟨s⟩⟩ ⟨⟨t⟩⟩ flags true = some true := fun k => by rw [burinlaw07_BracketBehind.j0, if_pos rfl]
  by_cases g1 : s.length > 100
  · refine ⟨Kw + 1, ?_⟩
    unfold burinlaw07_BracketBehind.f
    rw [show burinlaw07_works.f (Kw + 1) = _ from hw (Kw + 1) (by omega), Option.bind_some, if_pos rfl, zs, if_pos (by omega), skip]
  by_cases g2 : t.length > 100
  · refine ⟨Kw + 1, ?_⟩
    unfold burinlaw07_BracketBehind.f
    rw [show burinlaw07_works.f (Kw + 1) = _ from hw (Kw + 1) (by omega), Option.bind_some, if_pos rfl, zs, if_neg (by omega), zt, decide_eq_true (by omega), skip]
  obtain ⟨K1, h1⟩ := bracket_ev s (by omega) flags
  obtain ⟨K2, h2⟩ := num_part s t (by omega) (by omega)
  by_cases e : (brV s flags).2.2 = 0
  · obtain ⟨m, n, hbr, hN, h3, hns, hhead, hall⟩ := brV_local s flags e
    have hmlen : m.length ≤ 900000 := by
      have hev := h1 K1 (Nat.le_refl _)
      have hb := brV_len s flags (by omega)
      rw [hbr, List.length_map] at hb
      omega
    obtain ⟨K3, h3'⟩ := bracket_ev (s.take n ++ t) (by rw [List.length_append, List.length_take]; omega) flags
    obtain ⟨K4, h4⟩ := check_nrm hN hmlen
    obtain ⟨K5, h5⟩ := same_ev (m.map toRg) (by rw [List.length_map]; omega)
    rw [hall t] at h3'
    rw [hbr] at h1
    let k := Kw + K1 + K2 + K3 + K4 + K5
    have q0 : burinlaw07_works.f (k + 1 + 1) = _ := hw (k + 1 + 1) (by omega)
    have q1 : bracket_Bracket.f (k + 1) _ _ = _ := h1 (k + 1) (by omega)
    have q2 : burinlaw07_BracketBehind.j2 k _ _ = _ := h2 k (by omega)
    have q3 : bracket_Bracket.f k _ _ = _ := h3' k (by omega)
    have q4 : ranges_Check.f (k + 1) _ = _ := h4 (k + 1) (by omega)
    have q5 : burinbook_SameRanges.f k _ _ = _ := h5 k (by omega)
    have hb93 : bt ⟨⟨s⟩⟩ ((n : Int) - 1) = 93 := by
      cases hd : s.drop (n - 1) with
      | nil => rw [hd] at hhead; cases hhead
      | cons x w =>
        rw [hd] at hhead
        have hx : x = 93 := by simpa using hhead
        have := (bt_drop hd).1
        rw [show ((n - 1 : Nat) : Int) = (n : Int) - 1 by omega, hx] at this
        exact this
    have wn : wrap64 ((n : Int) - 1) = (n : Int) - 1 := wr rfl (by omega) (by omega)
    refine ⟨k + 1 + 1, ?_⟩
    unfold burinlaw07_BracketBehind.f
    rw [q0, Option.bind_some, if_pos rfl, zs, if_neg (by omega), zt, decide_eq_false (by omega), burinlaw07_BracketBehind.j0, if_neg (by decide), q1, Option.bind_some, if_pos rfl]
    dsimp only
    rw [if_neg (by omega), zs, if_neg (by omega), wn, if_pos (by omega), if_pos (by omega), hb93, if_pos rfl, q4, Option.bind_some]
    show burinlaw07_BracketBehind.j1 (k + 1) _ _ _ _ _ false = _
    rw [burinlaw07_BracketBehind.j1, if_neg (by decide), if_pos (by omega), zs, if_pos (by omega), Int.toNat_natCast, ex_take, q3, ex_list, sz, zt, if_pos (by rw [List.length_take]; omega), Option.bind_some, if_pos rfl, if_pos rfl, q5, Option.bind_some, if_pos rfl, q2]
  · have he := brV_err s flags e
    let k := Kw + K1 + K2
    have q0 : burinlaw07_works.f (k + 1) = _ := hw (k + 1) (by omega)
    have q1 : bracket_Bracket.f k _ _ = _ := h1 k (by omega)
    have q2 : burinlaw07_BracketBehind.j2 k _ _ = _ := h2 k (by omega)
    refine ⟨k + 1, ?_⟩
    unfold burinlaw07_BracketBehind.f
    rw [q0, Option.bind_some, if_pos rfl, zs, if_neg (by omega), zt, decide_eq_false (by omega), burinlaw07_BracketBehind.j0, if_neg (by decide), q1, Option.bind_some, if_neg e, if_neg (by omega), zs, if_neg (by omega), he.1, if_neg (by simp), q2]
end Go.Proofs.YtheheijhijeljaaGreatDoor.Pure

