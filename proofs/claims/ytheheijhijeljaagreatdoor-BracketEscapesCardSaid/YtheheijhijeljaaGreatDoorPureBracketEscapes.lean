/- BracketEscapes: escapes of numbers and of sets; no condition. -/
import Derived.Test.YtheheijhijeljaaGreatDoorHBracketEscapesx20
import Derived.Test.YtheheijhijeljaaGreatDoorBBracketEscapes1
namespace Go.Proofs.YtheheijhijeljaaGreatDoor.Pure
open Go.RowKit Go.Proofs.YtheheijhijeljaaGreatDoor.HBracketEscapes Go.Proofs.YtheheijhijeljaaGreatDoorW.PrintWords Go.Proofs.YtheheijhijeljaaGreatDoorW.PrintLast
open Go.Proofs.YtheheijhijeljaaGreatDoorX
theorem ev_from {α : Type} {g : Nat → Option α} {r : α} (K : Nat) (h : ∀ k, K ≤ k → g k = some r) : Ev g r := ⟨K, h⟩
theorem wr {x y : Int} (e : x = y) (h0 : -9223372036854775808 ≤ y) (h1 : y ≤ 9223372036854775807) : wrap64 x = y := by
  subst e
  unfold wrap64
  omega
theorem bt_drop {l : List UInt8} {i : Nat} {c : UInt8} {t : List UInt8} (h : l.drop i = c :: t) : bt ⟨⟨l⟩⟩ (i : Int) = (c.toNat : Int) ∧ i < l.length ∧ l.drop (i + 1) = t := by
  have hi : i < l.length := Decidable.byContradiction fun hh => by rw [List.drop_eq_nil_of_le (by omega)] at h; cases h
  rw [List.drop_eq_getElem_cons hi] at h
  obtain ⟨h1, h2⟩ := List.cons.inj h
  refine ⟨?_, hi, h2⟩
  unfold bt
  rw [dif_pos (show ((i : Int)).toNat < (ByteArray.mk ⟨l⟩).size by simpa [ByteArray.size] using hi)]
  rw [← h1]
  rfl
theorem sz (l : List UInt8) : (ByteArray.mk ⟨l⟩).size = l.length := by simp [ByteArray.size]
theorem tl (l : List UInt8) : (ByteArray.mk ⟨l⟩).toList = l := by rw [ByteArray.toList_eq]
theorem u8_in (c : UInt8) : 0 ≤ (c.toNat : Int) ∧ (c.toNat : Int) ≤ 255 := by have := c.toNat_lt; omega
/-- What a hexadecimal digit says. -/
def digV (c : Int) : Int := if 48 ≤ c ∧ c ≤ 57 then c - 48 else if 97 ≤ c ∧ c ≤ 102 then c - 87 else if 65 ≤ c ∧ c ≤ 70 then c - 55 else -1
theorem digV_in (c : Int) : -1 ≤ digV c ∧ digV c ≤ 15 := by
  unfold digV
  split
  · omega
  split
  · omega
  split <;> omega
theorem digit_f (k : Nat) {c : Int} (h0 : 0 ≤ c) (h1 : c ≤ 255) : bracket_digit.f (k + 2) c = some (digV c) := by
  unfold bracket_digit.f digV
  by_cases a : 48 ≤ c
  · by_cases b : c ≤ 57
    · rw [if_pos a, decide_eq_true b, if_pos ⟨a, b⟩, bracket_digit.j0, if_pos rfl]
      congr 1
      omega
    · rw [if_pos a, decide_eq_false b, if_neg (fun h => b h.2), bracket_digit.j0, if_neg (by decide)]
      by_cases d : 97 ≤ c
      · by_cases e : c ≤ 102
        · rw [if_pos d, decide_eq_true e, if_pos ⟨d, e⟩, bracket_digit.j1, if_pos rfl]
          congr 1
          omega
        · rw [if_pos d, decide_eq_false e, if_neg (fun h => e h.2), bracket_digit.j1, if_neg (by decide), if_pos (by omega), if_neg (by omega), if_neg (by omega)]
      · rw [if_neg d, if_neg (fun h => d h.1), bracket_digit.j1, if_neg (by decide)]
        by_cases f : 65 ≤ c
        · by_cases g : c ≤ 70
          · rw [if_pos f, if_pos g, if_pos ⟨f, g⟩]
            congr 1
            omega
          · rw [if_pos f, if_neg g, if_neg (fun h => g h.2)]
        · rw [if_neg f, if_neg (fun h => f h.1)]
  · rw [if_neg a, if_neg (fun h => a h.1), if_neg (by omega), if_neg (by omega), bracket_digit.j0, if_neg (by decide), if_neg (by omega), bracket_digit.j1, if_neg (by decide), if_neg (by omega)]
/-- A number between braces: what stands from a place on, and what was read. -/
def longV : List UInt8 → Nat → Int → Int × Int × Int
  | [], _, _ => (0, 0, 82)
  | c :: t, i, r => if (c.toNat : Int) = 125 ∧ 3 < i ∧ r ≤ 1114111 then (r, (i : Int) + 1, 0) else if digV c.toNat < 0 ∨ i = 9 then (0, 0, 80) else longV t (i + 1) (16 * r + digV c.toNat)
def shortV : List UInt8 → Int × Int × Int
  | [] => (0, 0, 82)
  | [a] => if digV a.toNat < 0 then (0, 0, 80) else (0, 0, 82)
  | a :: b :: _ => if digV a.toNat < 0 then (0, 0, 80) else if digV b.toNat < 0 then (0, 0, 80) else (16 * digV a.toNat + digV b.toNat, 4, 0)
def plainV (c : Int) : Option Int := if c = 97 then some 7 else if c = 102 then some 12 else if c = 116 then some 9 else if c = 110 then some 10 else if c = 114 then some 13 else if c = 118 then some 11 else none
def letB (c : Int) : Bool := decide (97 ≤ c ∧ c ≤ 122 ∨ 65 ≤ c ∧ c ≤ 90)
/-- An escape of a number. -/
def escV : List UInt8 → Int × Int × Int
  | [] => (0, 0, 3)
  | [c] => if (c.toNat : Int) = 92 then (0, 0, 82) else (0, 0, 3)
  | c :: d :: t => if (c.toNat : Int) = 92 then (match plainV d.toNat with
      | some v => (v, 2, 0)
      | none => if (d.toNat : Int) = 120 then (if t.head? = some 123 then longV t.tail 3 0 else shortV t) else if (d.toNat : Int) < 33 ∨ (d.toNat : Int) > 126 ∨ letB d.toNat = true ∨ 48 ≤ (d.toNat : Int) ∧ (d.toNat : Int) ≤ 57 then (0, 0, 80) else (d.toNat, 2, 0))
    else (0, 0, 3)
theorem long_ev (s : List UInt8) : ∀ (l : List UInt8) (i : Nat) (r : Int), s.drop i = l → 3 ≤ i → i ≤ 9 → 0 ≤ r → r < 16 ^ (i - 3) → s.length ≤ 1000000 → Ev (fun k => bracket_long.l0 k ⟨⟨s⟩⟩ r i) (longV l i r)
  | [], i, r, h, h3, h9, h0, h1, hs => by
    have : s.length ≤ i := List.drop_eq_nil_iff.1 h
    refine Ev.step (fun k => ?_) (Ev.now _)
    rw [bracket_long.l0, sz, if_neg (by omega)]
    rfl
  | c :: t, i, r, h, h3, h9, h0, h1, hs => by
    obtain ⟨hb, hi, ht⟩ := bt_drop h
    have hc := u8_in c
    have hd := digV_in c.toNat
    have hr : r < 16777216 := Int.lt_of_lt_of_le h1 (by
      have : i - 3 = 0 ∨ i - 3 = 1 ∨ i - 3 = 2 ∨ i - 3 = 3 ∨ i - 3 = 4 ∨ i - 3 = 5 ∨ i - 3 = 6 := by omega
      rcases this with e | e | e | e | e | e | e <;> rw [e] <;> decide)
    have hj : ∀ b : Bool, b = decide ((c.toNat : Int) = 125 ∧ 3 < i ∧ r ≤ 1114111) → Ev (fun k => bracket_long.j1 k ⟨⟨s⟩⟩ r i (digV c.toNat) b) (longV (c :: t) i r) := by
      intro b hb2
      unfold longV
      by_cases g : (c.toNat : Int) = 125 ∧ 3 < i ∧ r ≤ 1114111
      · rw [if_pos g]
        rw [decide_eq_true g] at hb2
        subst hb2
        refine Ev.step (fun k => ?_) (Ev.now _)
        rw [bracket_long.j1, if_pos rfl, wr (y := (i : Int) + 1) rfl (by omega) (by omega)]
      · rw [if_neg g]
        rw [decide_eq_false g] at hb2
        subst hb2
        by_cases e1 : digV c.toNat < 0
        · rw [if_pos (.inl e1)]
          refine Ev.step (fun k => ?_) (Ev.now _)
          rw [bracket_long.j1, if_neg (by decide), if_pos e1]
        · by_cases e2 : i = 9
          · rw [if_pos (.inr e2)]
            refine Ev.step (fun k => ?_) (Ev.now _)
            rw [bracket_long.j1, if_neg (by decide), if_neg e1, wr (y := (i : Int) - 3) rfl (by omega) (by omega), if_pos (by omega)]
          · rw [if_neg (fun h => h.elim e1 e2)]
            refine Ev.step (fun k => ?_) (long_ev s t (i + 1) (16 * r + digV c.toNat) ht (by omega) (by omega) (by omega) ?_ hs)
            · rw [bracket_long.j1, if_neg (by decide), if_neg e1, wr (y := (i : Int) - 3) rfl (by omega) (by omega), if_neg (by omega), wr (y := 16 * r) rfl (by omega) (by omega), wr (y := 16 * r + digV c.toNat) rfl (by omega) (by omega), wr (y := ((i + 1 : Nat) : Int)) (by omega) (by omega) (by omega)]
            · rw [show i + 1 - 3 = (i - 3) + 1 by omega, Int.pow_succ]
              omega
    obtain ⟨K, hK⟩ := hj _ rfl
    refine ⟨K + 3, fun k hk => ?_⟩
    obtain ⟨m, rfl⟩ : ∃ m, k = m + 2 + 1 := ⟨k - 3, by omega⟩
    have h2 : bracket_long.j1 (m + 2) ⟨⟨s⟩⟩ r i (digV c.toNat) _ = _ := hK (m + 2) (by omega)
    show bracket_long.l0 (m + 2 + 1) _ _ _ = _
    rw [bracket_long.l0, sz, if_pos (by omega), if_pos (by omega), hb, digit_f _ hc.1 hc.2, Option.bind_some, ← h2]
    by_cases g1 : (c.toNat : Int) = 125
    · by_cases g2 : 3 < i
      · rw [if_pos g1, if_pos (by omega), show decide ((c.toNat : Int) = 125 ∧ 3 < i ∧ r ≤ 1114111) = decide (r ≤ 1114111) from by rw [Bool.eq_iff_iff]; simp only [decide_eq_true_eq]; exact ⟨fun h => h.2.2, fun h => ⟨g1, g2, h⟩⟩]
      · rw [if_pos g1, if_neg (by omega), decide_eq_false (fun h : (c.toNat : Int) = 125 ∧ 3 < i ∧ r ≤ 1114111 => g2 h.2.1)]
    · rw [if_neg g1, decide_eq_false (fun h : (c.toNat : Int) = 125 ∧ 3 < i ∧ r ≤ 1114111 => g1 h.1)]
theorem short_ev (s : List UInt8) (h2 : 2 ≤ s.length) (hs : s.length ≤ 1000000) : Ev (fun k => bracket_short.f k ⟨⟨s⟩⟩) (shortV (s.drop 2)) := by
  refine ⟨6, fun k hk => ?_⟩
  obtain ⟨m, rfl⟩ : ∃ m, k = m + 2 + 1 + 1 + 1 + 1 := ⟨k - 6, by omega⟩
  show bracket_short.f (m + 2 + 1 + 1 + 1 + 1) _ = _
  unfold bracket_short.f
  have z := sz s
  rw [bracket_short.l0, if_pos (by omega), z]
  cases h : s.drop 2 with
  | nil =>
    have : s.length ≤ 2 := List.drop_eq_nil_iff.1 h
    rw [if_pos (by omega)]
    rfl
  | cons a t =>
    obtain ⟨hb, hi, ht⟩ := bt_drop h
    have ha := u8_in a
    have hd := digV_in a.toNat
    rw [if_neg (by omega), if_pos (by omega), if_pos (by omega), show (2 : Int) = ((2 : Nat) : Int) from rfl, hb, digit_f _ ha.1 ha.2, Option.bind_some]
    by_cases e : digV a.toNat < 0
    · rw [if_pos e]
      cases t with
      | nil => simp only [shortV]; rw [if_pos e]
      | cons b u => simp only [shortV]; rw [if_pos e]
    · rw [if_neg e, show wrap64 (wrap64 (16 * 0) + digV a.toNat) = digV a.toNat from by rw [wr (x := 16 * 0) (y := 0) rfl (by omega) (by omega)]; exact wr (by omega) (by omega) (by omega), wr (x := ((2 : Nat) : Int) + 1) (y := 3) rfl (by omega) (by omega)]
      rw [bracket_short.l0, if_pos (by omega), z]
      cases t with
      | nil =>
        have : s.length ≤ 3 := List.drop_eq_nil_iff.1 ht
        rw [if_pos (by omega)]
        simp only [shortV]; rw [if_neg e]
      | cons b u =>
        obtain ⟨hb2, hi2, ht2⟩ := bt_drop ht
        have hb' := u8_in b
        have hd' := digV_in b.toNat
        rw [if_neg (by omega), if_pos (by omega), if_pos (by omega), show (3 : Int) = ((2 + 1 : Nat) : Int) from rfl, hb2, digit_f _ hb'.1 hb'.2, Option.bind_some]
        by_cases e2 : digV b.toNat < 0
        · rw [if_pos e2]
          simp only [shortV]; rw [if_neg e, if_pos e2]
        · rw [if_neg e2, wr (y := 16 * digV a.toNat) rfl (by omega) (by omega), wr (y := 16 * digV a.toNat + digV b.toNat) rfl (by omega) (by omega), wr (x := ((2 + 1 : Nat) : Int) + 1) (y := 4) rfl (by omega) (by omega)]
          rw [bracket_short.l0, if_neg (by omega)]
          simp only [shortV]; rw [if_neg e, if_neg e2]
theorem letter_f {c : Int} : bracket_letter.f c = some (letB c) := by
  unfold bracket_letter.f letB
  by_cases a : 97 ≤ c
  · by_cases b : c ≤ 122
    · rw [if_pos a, if_pos b, decide_eq_true (.inl ⟨a, b⟩)]
    · rw [if_pos a, if_neg b, if_pos (by omega), decide_eq_false (by omega), decide_eq_false (by omega)]
  · rw [if_neg a]
    by_cases d : 65 ≤ c
    · by_cases e : c ≤ 90
      · rw [if_pos d, decide_eq_true e, decide_eq_true (.inr ⟨d, e⟩)]
      · rw [if_pos d, decide_eq_false e, decide_eq_false (by omega)]
    · rw [if_neg d, decide_eq_false (by omega)]
theorem plain_mem {c v : Int} (h : plainV c = some v) : c ∈ numLetters ∧ numPlain.getD (numLetters.idxOf c) 0 = v := by
  unfold plainV at h
  repeat' split at h
  all_goals first
    | (cases h; done)
    | (obtain rfl := Option.some.inj h; subst_vars; exact ⟨by decide, by decide⟩)
theorem plain_not {c : Int} (h : plainV c = none) : c ∉ numLetters := by
  unfold plainV at h
  repeat' split at h
  all_goals first
    | (cases h; done)
    | (simp [numLetters]; omega)
theorem ev_const {α : Type} {g : Nat → Option α} {r : α} (h : ∀ k, g k = some r) : Ev g r := ⟨0, fun k _ => h k⟩
theorem u8_eq {c : UInt8} {n : Nat} (h : (c.toNat : Int) = (n : Int)) (hn : n < 256) : c = n.toUInt8 := by
  apply UInt8.toNat_inj.1
  rw [show c.toNat = n by omega]
  simp
  omega
/-- The program's answer for an escape of a number. -/
theorem num_ev (s : List UInt8) (hs : s.length ≤ 1000000) : Ev (fun k => bracket_Number.f k ⟨⟨s⟩⟩) (escV s) := by
  have z := sz s
  match s, z, hs with
  | [], _, _ => exact ev_const fun k => by unfold bracket_Number.f; rw [tl, if_pos rfl]; rfl
  | c :: t, z, hs =>
    have hb : bt ⟨⟨c :: t⟩⟩ 0 = (c.toNat : Int) := (bt_drop (l := c :: t) (i := 0) rfl).1
    have hc := u8_in c
    by_cases e : (c.toNat : Int) = 92
    · cases t with
      | nil => exact ev_const fun k => by unfold bracket_Number.f; rw [tl, if_neg (by simp), hb, if_pos e, z, if_pos (by simp)]; simp only [escV]; rw [if_pos e]
      | cons d u =>
        have hd := u8_in d
        have hb1 : bt ⟨⟨c :: d :: u⟩⟩ 1 = (d.toNat : Int) := (bt_drop (l := c :: d :: u) (i := 1) rfl).1
        have h0 : ∀ k, bracket_Number.f k ⟨⟨c :: d :: u⟩⟩ = if (d.toNat : Int) ∈ numLetters then some (numPlain.getD (numLetters.idxOf (d.toNat : Int)) 0, 2, 0) else if (d.toNat : Int) = 120 then (if 2 < ((ByteArray.mk ⟨c :: d :: u⟩).size : Int) ∧ bt ⟨⟨c :: d :: u⟩⟩ 2 = 123 then bracket_long.f k ⟨⟨c :: d :: u⟩⟩ else bracket_short.f k ⟨⟨c :: d :: u⟩⟩)
            else if (d.toNat : Int) < 33 ∨ (d.toNat : Int) > 126 then some (0, 0, 80) else (bracket_letter.f (d.toNat : Int)).bind fun t => if t = true ∨ 48 ≤ (d.toNat : Int) ∧ (d.toNat : Int) ≤ 57 then some (0, 0, 80) else some ((d.toNat : Int), 2, 0) := fun k => by
          unfold bracket_Number.f
          rw [tl, if_neg (by simp), hb, if_pos e, if_neg (by rw [z]; simp only [List.length_cons]; omega), if_pos (by rw [z]; simp only [List.length_cons]; omega), hb1]
        simp only [escV]
        rw [if_pos e]
        cases hp : plainV (d.toNat : Int) with
        | some v =>
          obtain ⟨h1, h2⟩ := plain_mem hp
          exact ev_const fun k => by rw [h0, if_pos h1, h2]
        | none =>
          have h1 := plain_not hp
          by_cases e2 : (d.toNat : Int) = 120
          · simp only [if_pos e2]
            cases u with
            | nil => exact Ev.congr (fun k => by rw [h0, if_neg h1, if_pos e2, if_neg (by rw [z]; simp)]) (short_ev (c :: d :: []) (by simp) hs)
            | cons f v =>
              have hb2 : bt ⟨⟨c :: d :: f :: v⟩⟩ 2 = (f.toNat : Int) := (bt_drop (l := c :: d :: f :: v) (i := 2) rfl).1
              by_cases e3 : (f.toNat : Int) = 123
              · have hf : f = 123 := u8_eq (n := 123) e3 (by omega)
                rw [if_pos (by rw [hf]; rfl)]
                exact Ev.congr (fun k => by rw [h0, if_neg h1, if_pos e2, if_pos ⟨by rw [z]; simp only [List.length_cons]; omega, by rw [hb2]; exact e3⟩]; rfl) (long_ev (c :: d :: f :: v) v 3 0 rfl (by omega) (by omega) (by omega) (by decide) hs)
              · rw [if_neg (by simp; intro h; subst h; exact e3 rfl)]
                exact Ev.congr (fun k => by rw [h0, if_neg h1, if_pos e2, if_neg (fun h => e3 (hb2 ▸ h.2))]) (short_ev (c :: d :: f :: v) (by simp) hs)
          · simp only [if_neg e2]
            refine ev_const fun k => ?_
            rw [h0, if_neg h1, if_neg e2]
            by_cases e3 : (d.toNat : Int) < 33
            · rw [if_pos (.inl e3), if_pos (.inl e3)]
            by_cases e4 : (d.toNat : Int) > 126
            · rw [if_pos (.inr e4), if_pos (.inr (.inl e4))]
            rw [if_neg (by omega), letter_f, Option.bind_some]
            by_cases e5 : letB d.toNat = true ∨ 48 ≤ (d.toNat : Int) ∧ (d.toNat : Int) ≤ 57
            · rw [if_pos e5, if_pos (.inr (.inr e5))]
            · rw [if_neg e5, if_neg (fun h => h.elim e3 (fun h => h.elim e4 e5))]
    · refine ev_const fun k => ?_
      unfold bracket_Number.f
      rw [tl, if_neg (by simp), hb, if_neg e]
      cases t with
      | nil => simp only [escV]; rw [if_neg e]
      | cons d u => simp only [escV]; rw [if_neg e]
theorem not_l0 (s : List (Int × Int)) (hs : ∀ x ∈ s, 0 ≤ x.1 ∧ x.1 ≤ x.2 ∧ x.2 ≤ 1114111) (hn : s.length ≤ 900000) (d : Nat) : ∀ (i : Nat) (p : List (Int × Int)) (f : Int), i ≤ s.length → s.length - i = d → p.length + d ≤ 900000 → 0 ≤ f → f ≤ 1114112 →
    Ev (fun k => ranges_Not.l0 k (p.map toRg) f (s.map toRg) (s.length : Int) i) ((p ++ notG f (s.drop i)).map toRg) := by
  induction d with
  | zero =>
    intro i p f hi hd hp h0 h1
    have e : i = s.length := by omega
    subst e
    refine Ev.step (fun k => ?_) (Ev.now _)
    simp only [ranges_Not.l0]
    rw [if_neg (by omega), List.drop_of_length_le (Nat.le_refl _)]
    by_cases hf : f ≤ 1114111
    · rw [if_pos hf, if_pos (by simp; omega), notG, if_pos hf]
      simp [toRg]
    · rw [if_neg hf, notG, if_neg hf, List.append_nil]
  | succ d ih =>
    intro i p f hi hd hp h0 h1
    have hlt : i < s.length := by omega
    have hx := hs _ (List.getElem_mem hlt)
    have hstep : ∀ k, ranges_Not.l0 (k + 1) (p.map toRg) f (s.map toRg) (s.length : Int) i = if s[i].1 > f then ranges_Not.l0 k ((p ++ [(f, s[i].1 - 1)]).map toRg) (s[i].2 + 1) (s.map toRg) (s.length : Int) ((i + 1 : Nat) : Int) else ranges_Not.l0 k (p.map toRg) (s[i].2 + 1) (s.map toRg) (s.length : Int) ((i + 1 : Nat) : Int) := by
      intro k
      simp only [ranges_Not.l0]
      rw [if_pos (by omega), if_pos (by omega), if_pos (by simp; omega), rd_rg s i hlt]
      rw [show (toRg s[i]).f0 = s[i].1 from rfl, show (toRg s[i]).f1 = s[i].2 from rfl, wrap_rg (x := s[i].1 - 1) (by omega) (by omega), wrap_rg (x := s[i].2 + 1) (by omega) (by omega), wrap_rg (x := (i : Int) + 1) (by omega) (by omega), show (i : Int) + 1 = ((i + 1 : Nat) : Int) by omega]
      rw [if_pos (c := (List.map toRg p).length < 8796093022208) (by simp; omega)]
      simp [toRg]
    rw [List.drop_eq_getElem_cons hlt, notG]
    by_cases h : s[i].1 > f
    · rw [if_pos h]
      have := ih (i + 1) (p ++ [(f, s[i].1 - 1)]) (s[i].2 + 1) (by omega) (by omega) (by simp; omega) (by omega) (by omega)
      rw [List.append_assoc] at this
      exact Ev.step (fun k => by rw [hstep k, if_pos h]) this
    · rw [if_neg h]
      exact Ev.step (fun k => by rw [hstep k, if_neg h]) (ih (i + 1) p (s[i].2 + 1) (by omega) (by omega) (by omega) (by omega) (by omega))
theorem not_ev (l : List S36) (hn : l.length ≤ 900000) : Ev (fun k => ranges_Not.f k l) ((notL (l.map ofRg)).map toRg) := by
  have hl := normL_len (l.map ofRg)
  rw [List.length_map] at hl
  have hN := normL_nrm (l.map ofRg)
  have := not_l0 (normL (l.map ofRg)) (fun x hx => hN.inr x hx) (by omega) _ 0 [] 0 (Nat.zero_le _) rfl (by simp; omega) (by omega) (by omega)
  unfold ranges_Not.f
  refine Ev.bind (norm_ev l hn) ?_
  simpa [notL] using this
theorem same_l0 (s : List S36) (hn : s.length ≤ 2000000) (d : Nat) : ∀ i : Nat, i ≤ s.length → s.length - i = d → Ev (fun k => burinbook_SameRanges.l0 k s s true i) true := by
  induction d with
  | zero =>
    intro i hi hd
    refine Ev.step (fun k => ?_) (Ev.now _)
    simp only [burinbook_SameRanges.l0]
    rw [if_pos trivial, if_neg (by omega)]
  | succ d ih =>
    intro i hi hd
    refine Ev.step (fun k => ?_) (ih (i + 1) (by omega) (by omega))
    simp only [burinbook_SameRanges.l0]
    rw [if_pos trivial, if_pos (by omega), if_pos (by omega), if_pos (by omega), wrap_rg (x := (i : Int) + 1) (by omega) (by omega), show (i : Int) + 1 = ((i + 1 : Nat) : Int) by omega]
    simp
theorem same_ev (s : List S36) (hn : s.length ≤ 2000000) : Ev (fun k => burinbook_SameRanges.f k s s) true := by
  have := same_l0 s hn _ 0 (Nat.zero_le _) rfl
  unfold burinbook_SameRanges.f
  simpa using this
theorem rhas_l0 (s : List (Int × Int)) (r : Int) (hn : s.length ≤ 900000) (d : Nat) : ∀ i : Nat, i ≤ s.length → s.length - i = d → Ev (fun k => burinref02_Has.l0 k (s.map toRg) r i) (hasL (s.drop i) r) := by
  induction d with
  | zero =>
    intro i hi hd
    have e : i = s.length := by omega
    subst e
    rw [List.drop_of_length_le (Nat.le_refl _)]
    refine Ev.step (f := fun k => burinref02_Has.j1 k (s.map toRg) r (s.length : Int) false) (fun k => ?_) (Ev.step (fun k => ?_) (Ev.now _))
    · simp only [burinref02_Has.l0]
      rw [if_neg (by simp)]
    · simp only [burinref02_Has.j1]
      rw [if_neg (by simp)]
      unfold hasL
      rw [inL_nil]
      simp
  | succ d ih =>
    intro i hi hd
    have hlt : i < s.length := by omega
    have h0 : ∀ k, burinref02_Has.l0 (k + 1) (s.map toRg) r i = burinref02_Has.j1 k (s.map toRg) r (i : Int) (decide (0 ≤ r ∧ r ≤ 1114111)) := by
      intro k
      simp only [burinref02_Has.l0]
      rw [if_pos (by simp; omega)]
      by_cases c : r ≥ 0
      · rw [if_pos c]
        congr 1
        rw [decide_eq_decide]
        omega
      · rw [if_neg c, decide_eq_false (by omega)]
    by_cases c : 0 ≤ r ∧ r ≤ 1114111
    · have hd' : hasL (s.drop i) r = ((decide (s[i].1 ≤ r) && decide (r ≤ s[i].2)) || hasL (s.drop (i + 1)) r) := by
        unfold hasL
        rw [decide_eq_true c.1, decide_eq_true c.2, List.drop_eq_getElem_cons hlt, inL_cons]
        rfl
      rw [hd']
      have hr := ih (i + 1) (by omega) (by omega)
      have h1 : ∀ k, burinref02_Has.j1 (k + 1) (s.map toRg) r (i : Int) true = if s[i].1 ≤ r ∧ r ≤ s[i].2 then some true else burinref02_Has.l0 k (s.map toRg) r ((i + 1 : Nat) : Int) := by
        intro k
        simp only [burinref02_Has.j1]
        rw [if_pos trivial, if_pos (by omega), if_pos (by simp; omega), rd_rg s i hlt, wrap_rg (x := (i : Int) + 1) (by omega) (by omega), show (i : Int) + 1 = ((i + 1 : Nat) : Int) by omega]
        rw [show (toRg s[i]).f0 = s[i].1 from rfl, show (toRg s[i]).f1 = s[i].2 from rfl]
        by_cases a : s[i].1 ≤ r
        · by_cases b : r ≤ s[i].2
          · rw [if_pos a, if_pos b, if_pos ⟨a, b⟩]
          · rw [if_pos a, if_neg b, if_neg (fun h => b h.2)]
        · rw [if_neg a, if_neg (fun h => a h.1)]
      rw [decide_eq_true c] at h0
      by_cases q : s[i].1 ≤ r ∧ r ≤ s[i].2
      · rw [decide_eq_true q.1, decide_eq_true q.2]
        exact Ev.step h0 (Ev.step (fun k => by rw [h1 k, if_pos q]; rfl) (Ev.now _))
      · have : (decide (s[i].1 ≤ r) && decide (r ≤ s[i].2)) = false := by
          rw [← Bool.not_eq_true, Bool.and_eq_true, decide_eq_true_eq, decide_eq_true_eq]
          exact q
        rw [this, Bool.false_or]
        exact Ev.step h0 (Ev.step (fun k => by rw [h1 k, if_neg q]) hr)
    · rw [decide_eq_false c] at h0
      refine Ev.step h0 (Ev.step (fun k => ?_) (Ev.now _))
      simp only [burinref02_Has.j1]
      rw [if_neg (by simp)]
      have : hasL (s.drop i) r = false := by
        unfold hasL
        by_cases c1 : 0 ≤ r
        · rw [decide_eq_false (show ¬ r ≤ 1114111 by omega)]; simp
        · rw [decide_eq_false c1]; simp
      rw [this]
theorem rhas_ev (s : List (Int × Int)) (r : Int) (hn : s.length ≤ 900000) : Ev (fun k => burinref02_Has.f k (s.map toRg) r) (hasL s r) := by
  have := rhas_l0 s r hn _ 0 (Nat.zero_le _) rfl
  unfold burinref02_Has.f
  simpa using this
theorem edge_l0 (s : List (Int × Int)) (at_ : Int) (h0 : 0 ≤ at_) (hn : s.length ≤ 900000) (d : Nat) : ∀ (i : Nat) (n : Int), i ≤ s.length → s.length - i = d → Ev (fun k => burinref02_edge.l0 k (s.map toRg) at_ n i) (edgeG at_ n (s.drop i)) := by
  induction d with
  | zero =>
    intro i n hi hd
    have e : i = s.length := by omega
    subst e
    rw [List.drop_of_length_le (Nat.le_refl _)]
    refine Ev.step (fun k => ?_) (Ev.now _)
    simp only [burinref02_edge.l0]
    rw [if_neg (by simp)]
    rfl
  | succ d ih =>
    intro i n hi hd
    have hlt : i < s.length := by omega
    rw [List.drop_eq_getElem_cons hlt, edgeG]
    have h1 : ∀ k, burinref02_edge.l0 (k + 1) (s.map toRg) at_ n i = burinref02_edge.j1 k (s.map toRg) at_ n i (decide (s[i].1 > at_ ∧ s[i].1 < n)) := by
      intro k
      simp only [burinref02_edge.l0]
      rw [if_pos (by simp; omega), if_pos (by omega), rd_rg s i hlt, show (toRg s[i]).f0 = s[i].1 from rfl]
      by_cases c : s[i].1 > at_
      · rw [if_pos c]
        congr 1
        rw [decide_eq_decide]
        omega
      · rw [if_neg c, decide_eq_false (by omega)]
    refine Ev.step h1 (Ev.step (fun k => ?_) (ih (i + 1) (edgeS at_ n s[i]) (by omega) (by omega)))
    have hw : at_ ≤ s[i].2 → s[i].2 < 1114111 → wrap64 (s[i].2 + 1) = s[i].2 + 1 := fun a b => wrap_rg (by omega) (by omega)
    simp only [burinref02_edge.j1]
    rw [rd_rg s i hlt, show (toRg s[i]).f0 = s[i].1 from rfl, show (toRg s[i]).f1 = s[i].2 from rfl, wrap_rg (x := (i : Int) + 1) (by omega) (by omega), show (i : Int) + 1 = ((i + 1 : Nat) : Int) by omega]
    have hi0 : (0 : Int) ≤ (i : Int) := by omega
    have hi1 : (i : Int) < ((s.map toRg).length : Int) := by simp; omega
    simp only [if_pos hi0, if_pos hi1, edgeS]
    by_cases c : s[i].1 > at_ ∧ s[i].1 < n
    · rw [decide_eq_true c]
      simp only [if_pos c, if_true]
      by_cases a : s[i].2 ≥ at_
      · rw [if_pos a]
        by_cases b : s[i].2 < 1114111
        · rw [if_pos b, hw a b]
          by_cases e : s[i].2 + 1 < s[i].1
          · rw [if_pos e, if_pos ⟨a, b, e⟩]
          · rw [if_neg e, if_neg (fun h => e h.2.2)]
        · rw [if_neg b, if_neg (fun h => b h.2.1)]
      · rw [if_neg a, if_neg (fun h => a h.1)]
    · rw [decide_eq_false c]
      simp only [if_neg c]
      rw [if_neg (by simp)]
      by_cases a : s[i].2 ≥ at_
      · rw [if_pos a]
        by_cases b : s[i].2 < 1114111
        · rw [if_pos b, hw a b]
          by_cases e : s[i].2 + 1 < n
          · rw [if_pos e, if_pos ⟨a, b, e⟩]
          · rw [if_neg e, if_neg (fun h => e h.2.2)]
        · rw [if_neg b, if_neg (fun h => b h.2.1)]
      · rw [if_neg a, if_neg (fun h => a h.1)]
theorem edge_ev (s : List (Int × Int)) (at_ : Int) (h0 : 0 ≤ at_) (hn : s.length ≤ 900000) : Ev (fun k => burinref02_edge.f k (s.map toRg) at_) (edgeL s at_) := by
  have := edge_l0 s at_ h0 hn _ 0 1114112 (Nat.zero_le _) rfl
  unfold burinref02_edge.f edgeL
  simpa using this
/-- The three ways of making. -/
def madeBy (op : Int) (x y : Bool) : Bool := (decide (op = 1) && (x || y)) || ((decide (op = 2) && (x && y)) || (decide (op = 3) && (x && !y)))
theorem make_j2 (op : Int) (a b : List (Int × Int)) (G : Int → Bool) (p : List (Int × Int)) (at_ next : Int) (hU : Upto G at_ p) (h0 : 0 ≤ at_) (h1 : at_ < next) (h2 : next ≤ 1114112) (hG : ∀ r, at_ ≤ r → r < next → G r = G at_) :
    ∃ q, Upto G next q ∧ ∀ k, burinref02_Make.j2 (k + 1) op (a.map toRg) (b.map toRg) (p.map toRg) at_ next (G at_) = burinref02_Make.l0 k op (a.map toRg) (b.map toRg) (q.map toRg) next := by
  by_cases g : G at_ = true
  · rw [g] at hG
    have hlen := nrm_len hU.nrm
    have happ : (p.map toRg).length < 8796093022208 := by simp; omega
    rcases List.eq_nil_or_concat p with rfl | ⟨p', c, rfl⟩
    · refine ⟨[(at_, next - 1)], hU.more h0 h1 h2 hG (fun x hx => by cases hx), fun k => ?_⟩
      simp only [burinref02_Make.j2]
      rw [g, if_pos rfl, if_neg (by simp), if_pos happ, wrap_rg (x := next - 1) (by omega) (by omega)]
      rfl
    · rw [List.concat_eq_append] at *
      have hl : (((p' ++ [c]).map toRg).length : Int) = p'.length + 1 := by simp
      have hp' : p'.length + 1 ≤ 1114112 := by simpa using hlen
      have hlast : rd_T36 ((p' ++ [c]).map toRg) (p'.length : Int) = toRg c := by
        rw [rd_rg (p' ++ [c]) p'.length (by simp)]; simp
      have hc := hU.nrm.inr c (by simp)
      by_cases e : c.2 + 1 = at_
      · refine ⟨p' ++ [(c.1, next - 1)], hU.join h0 h1 h2 hG e, fun k => ?_⟩
        simp only [burinref02_Make.j2]
        rw [g, if_pos rfl, hl, if_pos (by omega), wrap_rg (x := (p'.length : Int) + 1 - 1) (by omega) (by omega), show (p'.length : Int) + 1 - 1 = p'.length by omega, if_pos (by omega), if_pos (by omega), hlast]
        rw [show (toRg c).f1 = c.2 from rfl, show (toRg c).f0 = c.1 from rfl, wrap_rg (x := c.2 + 1) (by omega) (by omega), if_pos e, wrap_rg (x := next - 1) (by omega) (by omega)]
        congr 1
        rw [Int.toNat_natCast, List.map_append, List.map_append, List.set_append_right _ _ (by simp)]
        simp [toRg]
      · refine ⟨(p' ++ [c]) ++ [(at_, next - 1)], hU.more h0 h1 h2 hG (fun x hx => ?_), fun k => ?_⟩
        · rcases List.mem_append.1 hx with hx | hx
          · have := (List.pairwise_append.1 hU.nrm.apart).2.2 x hx c (by simp)
            have := hU.lt c (by simp)
            omega
          · simp only [List.mem_singleton] at hx; subst hx; exact e
        · simp only [burinref02_Make.j2]
          rw [g, if_pos rfl, hl, if_pos (by omega), wrap_rg (x := (p'.length : Int) + 1 - 1) (by omega) (by omega), show (p'.length : Int) + 1 - 1 = p'.length by omega, if_pos (by omega), if_pos (by omega), hlast]
          rw [show (toRg c).f1 = c.2 from rfl, wrap_rg (x := c.2 + 1) (by omega) (by omega), if_neg e, if_pos happ, wrap_rg (x := next - 1) (by omega) (by omega)]
          congr 1
          simp [toRg]
  · rw [Bool.not_eq_true] at g
    rw [g] at hG
    refine ⟨p, hU.skip h1 hG, fun k => ?_⟩
    simp only [burinref02_Make.j2]
    rw [g, if_neg (by simp)]
theorem make_j1 (op : Int) (hop : op = 1 ∨ op = 2 ∨ op = 3) (a b : List S36) (p : List S36) (at_ next : Int) (x y : Bool) {m : List S36} (hx : Ev (fun k => burinref02_Has.f k a at_) x) (hy : Ev (fun k => burinref02_Has.f k b at_) y)
    (h : Ev (fun k => burinref02_Make.j2 k op a b p at_ next (madeBy op x y)) m) : Ev (fun k => burinref02_Make.j1 k op a b p at_ next) m := by
  refine Ev.step (fun k => by simp only [burinref02_Make.j1]; exact rfl) (Ev.bind hx (Ev.bind hy ?_))
  refine Ev.congr (fun k => ?_) h
  rcases hop with rfl | rfl | rfl <;> cases x <;> cases y <;> rfl
theorem make_l0 (op : Int) (hop : op = 1 ∨ op = 2 ∨ op = 3) (a b : List (Int × Int)) (ha : a.length ≤ 900000) (hb : b.length ≤ 900000) (d : Nat) : ∀ (at_ : Int) (p : List (Int × Int)), 0 ≤ at_ → at_ ≤ 1114112 → (1114112 - at_).toNat ≤ d → Upto (fun r => madeBy op (hasL a r) (hasL b r)) at_ p →
    ∃ q, Upto (fun r => madeBy op (hasL a r) (hasL b r)) 1114112 q ∧ Ev (fun k => burinref02_Make.l0 k op (a.map toRg) (b.map toRg) (p.map toRg) at_) (q.map toRg) := by
  induction d with
  | zero =>
    intro at_ p h0 h1 hd hU
    have e : at_ = 1114112 := by omega
    subst e
    refine ⟨p, hU, Ev.step (fun k => ?_) (Ev.now _)⟩
    simp only [burinref02_Make.l0]
    rw [if_neg (by omega)]
  | succ d ih =>
    intro at_ p h0 h1 hd hU
    by_cases c : at_ ≤ 1114111
    · have ea := edge_in a c
      have eb := edge_in b c
      obtain ⟨next, hnext⟩ : ∃ n, n = if edgeL b at_ < edgeL a at_ then edgeL b at_ else edgeL a at_ := ⟨_, rfl⟩
      have hn1 : at_ < next ∧ next ≤ 1114112 ∧ next ≤ edgeL a at_ ∧ next ≤ edgeL b at_ := by
        rw [hnext]; split <;> omega
      obtain ⟨q, hq, hj⟩ := make_j2 op a b (fun r => madeBy op (hasL a r) (hasL b r)) p at_ next hU h0 hn1.1 hn1.2.1 (fun r r0 r1 => by
        show madeBy op (hasL a r) (hasL b r) = madeBy op (hasL a at_) (hasL b at_)
        rw [edge_has h0 r0 (show r < edgeL a at_ by omega), edge_has h0 r0 (show r < edgeL b at_ by omega)])
      obtain ⟨m, hm, hE⟩ := ih next q (by omega) hn1.2.1 (by omega) hq
      refine ⟨m, hm, Ev.step (fun k => by simp only [burinref02_Make.l0]; rw [if_pos c]) (Ev.bind (edge_ev a at_ h0 ha) (Ev.bind (edge_ev b at_ h0 hb) ?_))⟩
      have key : Ev (fun k => burinref02_Make.j1 k op (a.map toRg) (b.map toRg) (p.map toRg) at_ next) (m.map toRg) :=
        make_j1 op hop _ _ _ _ _ _ _ (rhas_ev a at_ ha) (rhas_ev b at_ hb) (Ev.step hj hE)
      refine Ev.congr (fun k => ?_) key
      rw [hnext]
      split <;> rfl
    · have e : at_ = 1114112 := by omega
      subst e
      refine ⟨p, hU, Ev.step (fun k => ?_) (Ev.now _)⟩
      simp only [burinref02_Make.l0]
      rw [if_neg (by omega)]
theorem make_ev (op : Int) (hop : op = 1 ∨ op = 2 ∨ op = 3) (a b : List (Int × Int)) (ha : a.length ≤ 900000) (hb : b.length ≤ 900000) (m : List (Int × Int)) (hm : Nrm m) (hin : ∀ r, inL m r = madeBy op (hasL a r) (hasL b r)) :
    Ev (fun k => burinref02_Make.f k op (a.map toRg) (b.map toRg)) (m.map toRg) := by
  obtain ⟨q, hq, hE⟩ := make_l0 op hop a b ha hb 1114112 0 [] (by omega) (by omega) (by omega) (Upto.start _)
  have e : q = m := nrm_ext hq.nrm hm (fun r => by
    rw [hq.last r, hin r]
    unfold hasL madeBy
    cases decide (0 ≤ r) <;> cases decide (r ≤ 1114111) <;> simp)
  rw [← e]
  exact hE
theorem rnorm_ev (a : List (Int × Int)) (ha : a.length ≤ 900000) : Ev (fun k => burinref02_Norm.f k (a.map toRg)) ((normL a).map toRg) := by
  unfold burinref02_Norm.f
  refine Ev.bind (make_ev 1 (.inl rfl) a [] ha (by simp) (normL a) (normL_nrm a) (fun r => ?_)) (Ev.now _)
  rw [normL_in]
  have : hasL [] r = false := by unfold hasL; rw [inL_nil]; simp
  rw [this]
  unfold madeBy
  simp
/-- Of a text's first byte. -/
theorem ex01 (c : UInt8) (t : List UInt8) : ((ByteArray.mk ⟨c :: t⟩).extract 0 1).toList = [c] := by
  rw [ByteArray.toList_eq, ByteArray.data_extract]
  simp
theorem ex1n (c : UInt8) (t : List UInt8) : (ByteArray.mk ⟨c :: t⟩).extract 1 (t.length + 1) = ⟨⟨t⟩⟩ := by
  apply ByteArray.ext
  rw [ByteArray.data_extract]
  simp
theorem sz_cons (c : UInt8) (t : List UInt8) : (ByteArray.mk ⟨c :: t⟩).size = t.length + 1 := by
  simp [ByteArray.size]
theorem caret_app (s : ByteArray) : (⟨#[94]⟩ : ByteArray) ++ s = ⟨⟨94 :: s.data.toList⟩⟩ := by
  apply ByteArray.ext
  rw [ByteArray.data_append]
  apply Array.ext'
  simp
theorem prefix_cons (c : UInt8) (t : List UInt8) : stringslite_HasPrefix.f ⟨⟨c :: t⟩⟩ (⟨#[94]⟩ : ByteArray) = some (c == 94) := by
  unfold stringslite_HasPrefix.f
  have h1 : (⟨#[94]⟩ : ByteArray).size = 1 := rfl
  have h2 : (⟨#[94]⟩ : ByteArray).toList = [94] := by rw [ByteArray.toList_eq]
  rw [sz_cons, h1, if_pos (by omega), if_pos (by omega), if_pos (by omega), h2, show (((1 : Nat) : Int)).toNat = 1 from rfl, ex01]
  simp
theorem cut_cons (c : UInt8) (t : List UInt8) : strings_CutPrefix.f ⟨⟨c :: t⟩⟩ (⟨#[94]⟩ : ByteArray) = some (if c = 94 then ((⟨⟨t⟩⟩ : ByteArray), true) else (⟨⟨c :: t⟩⟩, false)) := by
  unfold strings_CutPrefix.f stringslite_CutPrefix.f
  rw [prefix_cons, Option.bind_some]
  have h1 : (⟨#[94]⟩ : ByteArray).size = 1 := rfl
  by_cases h : c = 94
  · rw [if_pos (by simpa using h), h1, if_pos (by omega), sz_cons, if_pos (by omega), show (((1 : Nat) : Int)).toNat = 1 from rfl, ex1n, if_pos h]
    rfl
  · rw [if_neg (by simpa using h), if_neg h]
    rfl
theorem cut_nil : strings_CutPrefix.f ⟨⟨[]⟩⟩ (⟨#[94]⟩ : ByteArray) = some ((⟨⟨[]⟩⟩ : ByteArray), false) := by
  unfold strings_CutPrefix.f stringslite_CutPrefix.f stringslite_HasPrefix.f
  rw [if_neg (by decide)]
  rfl
/-- Whether a text begins with the sign for what a set lacks. -/
def caret (s : ByteArray) : Bool := s.data.toList.head? == some 94
theorem cut_plain {s : ByteArray} (h : caret s = false) : strings_CutPrefix.f s (⟨#[94]⟩ : ByteArray) = some (s, false) := by
  obtain ⟨⟨l⟩⟩ := s
  cases l with
  | nil => exact cut_nil
  | cons c t =>
    rw [cut_cons, if_neg]
    intro e
    subst e
    simp [caret] at h
theorem cut_caret (s : ByteArray) : strings_CutPrefix.f ((⟨#[94]⟩ : ByteArray) ++ s) (⟨#[94]⟩ : ByteArray) = some (s, true) := by
  rw [caret_app, cut_cons, if_pos rfl]
theorem splitB_small (sep : ByteArray) (k : Nat) : ∀ s : ByteArray, ∀ x ∈ Lib.splitB sep 0 k s, x.size ≤ s.size := by
  induction k with
  | zero =>
    intro s x hx
    obtain rfl : x = s := by simpa [Lib.splitB] using hx
    exact Nat.le_refl _
  | succ k ih =>
    intro s x hx
    unfold Lib.splitB at hx
    split at hx
    · obtain rfl : x = s := by simpa using hx
      exact Nat.le_refl _
    · rcases List.mem_cons.1 hx with rfl | hx
      · rw [ByteArray.size_extract]; omega
      · have := ih _ x hx
        rw [ByteArray.size_extract] at this
        omega
theorem split_small {s : ByteArray} (h : s.size ≤ 990) : SmallPieces s ∧ splitN s ≤ 1000 := by
  have hle := Lib.countB_le ⟨#[32]⟩ (by decide) s.size s (Nat.le_refl _)
  refine ⟨⟨by omega, fun x hx => ?_⟩, by unfold splitN; omega⟩
  have := splitB_small ⟨#[32]⟩ _ s x hx
  omega
/-- A table of names: short ones, of which none begins with that sign. -/
def tabOk (l : List S105) : Bool := decide (0 < l.length) && l.all fun x => decide (x.f1.size ≤ 990) && !caret x.f0
theorem tab_good {l : List S105} (h : tabOk l = true) : goodNm (l.map ofNm) = true ∧ ∀ x ∈ l.map ofNm, caret x.1 = false := by
  unfold tabOk at h
  simp only [Bool.and_eq_true, decide_eq_true_eq, List.all_eq_true, Bool.not_eq_true'] at h
  refine ⟨?_, fun x hx => ?_⟩
  · unfold goodNm
    simp only [Bool.and_eq_true, decide_eq_true_eq, List.all_eq_true, List.length_map]
    refine ⟨h.1, fun x hx => ?_⟩
    obtain ⟨y, hy, rfl⟩ := List.mem_map.1 hx
    obtain ⟨h1, h2⟩ := split_small (s := (ofNm y).2) (h.2 y hy).1
    exact ⟨⟨h1.1, h1.2⟩, h2⟩
  · obtain ⟨y, hy, rfl⟩ := List.mem_map.1 hx
    exact (h.2 y hy).2
theorem find_ok {l : List S105} (h : tabOk l = true) (s : ByteArray) : class_find.f l s = some ((findV normL (l.map ofNm) s).1.map toRg, (findV normL (l.map ofNm) s).2) := by
  unfold class_find.f
  rw [if_pos (tab_good h).1]
theorem find_fact {l : List S105} (h : tabOk l = true) (s : ByteArray) : Nrm (findV normL (l.map ofNm) s).1 ∧ (findV normL (l.map ofNm) s).1.length ≤ 900000 ∧ ((findV normL (l.map ofNm) s).2 = 0 ∨ findV normL (l.map ofNm) s = ([], 70)) := by
  obtain ⟨_, hg⟩ := good_nm (tab_good h).1
  unfold findV
  cases hf : (l.map ofNm).find? (isNm s) with
  | none => exact ⟨Nrm.nil, by simp, Or.inr rfl⟩
  | some x => exact ⟨normL_nrm _, Nat.le_trans (normL_len _) (hg x (List.mem_of_find?_eq_some hf)).2.2, Or.inl rfl⟩
/-- What a name stands for with the sign ahead. -/
def lackV (l : List S105) (s : ByteArray) : List (Int × Int) × Int := if (findV normL (l.map ofNm) s).2 = 0 then (notL (findV normL (l.map ofNm) s).1, 0) else ([], 70)
theorem turned_plain {l : List S105} (h : tabOk l = true) {s : ByteArray} (hs : caret s = false) : Ev (fun k => class_turned.f k l s) ((findV normL (l.map ofNm) s).1.map toRg, (findV normL (l.map ofNm) s).2) := by
  refine ev_from 0 fun k _ => ?_
  unfold class_turned.f
  rw [cut_plain hs, Option.bind_some, find_ok h, Option.bind_some]
  dsimp only
  split <;> rfl
theorem turned_caret {l : List S105} (h : tabOk l = true) (s : ByteArray) : Ev (fun k => class_turned.f k l ((⟨#[94]⟩ : ByteArray) ++ s)) ((lackV l s).1.map toRg, (lackV l s).2) := by
  obtain ⟨hN, hl, h2⟩ := find_fact h s
  obtain ⟨K, hK⟩ := not_ev ((findV normL (l.map ofNm) s).1.map toRg) (by rw [List.length_map]; exact hl)
  refine ev_from K fun k hk => ?_
  unfold class_turned.f
  rw [cut_caret, Option.bind_some, find_ok h, Option.bind_some]
  dsimp only
  unfold lackV
  rcases h2 with h2 | h2
  · have hK' : ranges_Not.f k _ = _ := hK k hk
    rw [if_pos h2, if_pos h2, if_pos rfl, hK', Option.bind_some, map_forth, h2]
  · rw [h2]
    rfl
/-- Up to a byte, and what stands behind it. -/
def cutL (c : UInt8) : List UInt8 → List UInt8 × Option (List UInt8)
  | [] => ([], none)
  | b :: t => if b = c then ([], some t) else ((b :: (cutL c t).1), (cutL c t).2)
theorem cutL_spec (c : UInt8) : ∀ s : List UInt8, (Lib.indexByte s c = -1 ∧ cutL c s = (s, none)) ∨ ∃ i : Nat, Lib.indexByte s c = i ∧ cutL c s = (s.take i, some (s.drop (i + 1)))
  | [] => .inl ⟨rfl, rfl⟩
  | b :: t => by
    unfold Lib.indexByte cutL
    by_cases h : b = c
    · refine .inr ⟨0, ?_, ?_⟩
      · rw [if_pos (by simpa using h)]; rfl
      · rw [if_pos h]; rfl
    · rw [if_neg (by simpa using h), if_neg h]
      rcases cutL_spec c t with ⟨h1, h2⟩ | ⟨i, h1, h2⟩
      · refine .inl ⟨by rw [h1]; rfl, by rw [h2]⟩
      · refine .inr ⟨i + 1, ?_, by rw [h2]; rfl⟩
        rw [h1, if_neg (by rw [beq_iff_eq]; omega)]
        omega
/-- The pieces between blanks. -/
def splF : Nat → List UInt8 → List (List UInt8)
  | 0, s => [s]
  | k + 1, s => match (cutL 32 s).2 with
    | none => [(cutL 32 s).1]
    | some t => (cutL 32 s).1 :: splF k t
def cntF : Nat → List UInt8 → Nat
  | 0, _ => 0
  | k + 1, s => match (cutL 32 s).2 with
    | none => 0
    | some t => 1 + cntF k t
theorem splF_eq : ∀ (k : Nat) (s : List UInt8), Lib.splitK [32] 0 k s = splF k s
  | 0, s => rfl
  | k + 1, s => by
    unfold Lib.splitK splF
    rw [Lib.index_one]
    rcases cutL_spec 32 s with ⟨h1, h2⟩ | ⟨i, h1, h2⟩
    · rw [h1, h2]; rfl
    · rw [h1, h2, if_neg (by rw [beq_iff_eq]; omega)]
      have e : ((i : Int)).toNat = i := rfl
      show s.take (i + 0) :: Lib.splitK [32] 0 k (s.drop (i + 1)) = s.take i :: splF k (s.drop (i + 1))
      rw [splF_eq k, Nat.add_zero]
theorem cntF_eq : ∀ (k : Nat) (s : List UInt8), Lib.countFrom [32] k s = cntF k s
  | 0, s => rfl
  | k + 1, s => by
    unfold Lib.countFrom cntF
    rw [Lib.index_one]
    rcases cutL_spec 32 s with ⟨h1, h2⟩ | ⟨i, h1, h2⟩
    · rw [h1, h2]; rfl
    · rw [h1, h2, if_neg (by rw [beq_iff_eq]; omega)]
      show 1 + Lib.countFrom [32] k (s.drop (i + 1)) = 1 + cntF k (s.drop (i + 1))
      rw [cntF_eq k]
def numL (l : List UInt8) : Int := l.foldl numStep 0
def pieceL (l : List UInt8) : Int × Int := match (cutL 45 l).2 with
  | none => (numL (cutL 45 l).1, numL (cutL 45 l).1)
  | some b => (numL (cutL 45 l).1, numL b)
theorem pieceV_eq (s : ByteArray) : pieceV s = pieceL s.data.toList := by
  unfold pieceV cutV pieceL numV
  rcases cutL_spec 45 s.data.toList with ⟨h1, h2⟩ | ⟨i, h1, h2⟩
  · rw [h1, h2, if_neg (by decide)]
    rfl
  · rw [h1, h2, if_pos (by omega)]
    have e : ((i : Int)).toNat = i := rfl
    dsimp only
    rw [if_pos rfl, e, Lib.extract_from_zero]
    unfold numL
    congr 2
    rw [ByteArray.data_extract]
    simp only [Array.toList_extract, List.extract_eq_take_drop]
    rw [List.take_of_length_le]
    rw [List.length_drop]
    exact Nat.le_of_eq rfl
def piecesL (s : List UInt8) : List (Int × Int) := (splF (cntF (s.length + 1) s) s).map pieceL
theorem piecesV_eq (s : ByteArray) : piecesV s = piecesL s.data.toList := by
  unfold piecesV piecesL splitV
  have h1 : Lib.countB s ⟨#[32]⟩ = cntF (s.data.toList.length + 1) s.data.toList := cntF_eq _ _
  have h2 := Lib.splitB_data ⟨#[32]⟩ 0 (Lib.countB s ⟨#[32]⟩) s
  rw [show (⟨#[32]⟩ : ByteArray).data.toList = [32] from rfl, splF_eq, h1] at h2
  rw [← h2, List.map_map, h1]
  exact List.map_congr_left fun x _ => pieceV_eq x
/-- A table looked up. -/
def look {β : Type} : List (List UInt8 × β) → List UInt8 → Option β
  | [], _ => none
  | x :: t, nm => if nm = x.1 then some x.2 else look t nm
theorem look_map {β γ : Type} (g : β → γ) (nm : List UInt8) : ∀ l : List (List UInt8 × β), look (l.map fun x => (x.1, g x.2)) nm = (look l nm).map g
  | [] => rfl
  | x :: t => by
    rw [List.map_cons]
    unfold look
    by_cases h : nm = x.1
    · rw [if_pos h, if_pos h]; rfl
    · rw [if_neg h, if_neg h]; exact look_map g nm t
theorem look_mem {β : Type} {nm : List UInt8} {v : β} : ∀ {l : List (List UInt8 × β)}, look l nm = some v → ∃ x ∈ l, x.2 = v
  | [], h => by cases h
  | x :: t, h => by
    unfold look at h
    by_cases e : nm = x.1
    · rw [if_pos e] at h; exact ⟨x, List.mem_cons_self, Option.some.inj h⟩
    · rw [if_neg e] at h
      obtain ⟨y, hy, hv⟩ := look_mem h
      exact ⟨y, List.mem_cons_of_mem _ hy, hv⟩
def tabL (l : List S105) : List (List UInt8 × List (Int × Int)) := l.map fun x => (x.f0.data.toList, piecesL x.f1.data.toList)
def ansV : Option (List (Int × Int)) → List (Int × Int) × Int
  | none => ([], 70)
  | some p => (normL p, 0)
theorem find_look (s : ByteArray) : ∀ l : List S105, findV normL (l.map ofNm) s = ansV (look (tabL l) s.toList)
  | [] => rfl
  | x :: t => by
    have ih := find_look s t
    unfold findV at ih ⊢
    rw [List.map_cons, List.find?_cons]
    show _ = ansV (look ((x.f0.data.toList, piecesL x.f1.data.toList) :: tabL t) s.toList)
    unfold look isNm
    by_cases h : s.toList = x.f0.data.toList
    · rw [if_pos h]
      have : ((ofNm x).1.toList == s.toList) = true := by rw [h, beq_iff_eq, ByteArray.toList_eq]; rfl
      rw [this]
      show (normL (piecesV x.f1), (0 : Int)) = _
      rw [piecesV_eq]
      rfl
    · rw [if_neg h]
      have : ((ofNm x).1.toList == s.toList) = false := by
        rw [beq_eq_false_iff_ne]
        intro e
        exact h (e.symm.trans (ByteArray.toList_eq _))
      rw [this]
      exact ih
def propertyT : List (List UInt8 × List Int) := [([65, 110, 121], [0, 1114111]), ([67, 121, 114, 105, 108, 108, 105, 99], [1024, 1156, 1159, 1327]), ([71, 114, 101, 101, 107], [880, 883, 885, 887, 890, 893, 895, 895, 900, 900, 902, 902, 904, 906, 908, 908, 910, 929, 931, 993, 1008, 1023, 8486, 8486]), ([76], [65, 90, 192, 214, 216, 222, 376, 376, 913, 929, 931, 939, 1024, 1071, 97, 122, 181, 181, 223, 246, 248, 255, 940, 974, 1072, 1119, 383, 383, 65, 90, 97, 122, 170, 170, 186, 186, 192, 214, 216, 246, 248, 591, 880, 883, 885, 887, 890, 893, 895, 895, 900, 900, 902, 902, 904, 906, 908, 908, 910, 929, 931, 993, 1008, 1023, 8486, 8486, 1024, 1156, 1159, 1327]), ([76, 97, 116, 105, 110], [65, 90, 97, 122, 170, 170, 186, 186, 192, 214, 216, 246, 248, 591]), ([76, 108], [97, 122, 181, 181, 223, 246, 248, 255, 940, 974, 1072, 1119, 383, 383]), ([76, 117], [65, 90, 192, 214, 216, 222, 376, 376, 913, 929, 931, 939, 1024, 1071]), ([78, 100], [48, 57, 1632, 1641, 1776, 1785, 2406, 2415])]
theorem all_in (r : Int) : hasL [((0 : Int), (1114111 : Int))] r = (decide (0 ≤ r) && decide (r ≤ 1114111)) := by
  unfold hasL
  rw [inL_cons, inL_nil]
  cases decide (0 ≤ r) <;> cases decide (r ≤ 1114111) <;> rfl
theorem rnot_ev (a : List (Int × Int)) (ha : a.length ≤ 900000) : Ev (fun k => burinref02_Not.f k (a.map toRg)) ((notL a).map toRg) := by
  unfold burinref02_Not.f
  refine Ev.bind (Ev.now _) (Ev.bind (make_ev 3 (.inr (.inr rfl)) [(0, 1114111)] a (by simp) ha (notL a) (notL_nrm a) (fun r => ?_)) (Ev.now _))
  rw [notL_in, all_in]
  unfold madeBy hasL
  cases decide (0 ≤ r) <;> cases decide (r ≤ 1114111) <;> cases inL a r <;> rfl
/-- Numbers, two and two. -/
def pairs : List Int → List (Int × Int)
  | a :: b :: t => (a, b) :: pairs t
  | _ => []
theorem pairs_len : ∀ n : List Int, (pairs n).length ≤ n.length
  | [] => by simp [pairs]
  | [a] => by simp [pairs]
  | a :: b :: t => by have := pairs_len t; simp [pairs]; omega
theorem wrap_in {x : Int} (h0 : -9223372036854775808 ≤ x) (h1 : x ≤ 9223372036854775807) : wrap64 x = x := wrap_rg h0 h1
theorem list_l0 (n : List Int) (hn : n.length ≤ 100000) (d : Nat) : ∀ (i : Nat) (p : List (Int × Int)), n.length - i ≤ d → p.length ≤ i → i ≤ n.length → Ev (fun k => burinref04_list.l0 k n (p.map toRg) i) ((normL (p ++ pairs (n.drop i))).map toRg) := by
  induction d using Nat.strongRecOn with
  | _ d ih =>
  intro i p hd hp hi
  have w1 : wrap64 ((i : Int) + 1) = (i : Int) + 1 := wrap_in (by omega) (by omega)
  have w2 : wrap64 ((i : Int) + 2) = ((i + 2 : Nat) : Int) := by rw [wrap_in (by omega) (by omega)]; omega
  by_cases hlt : i + 1 < n.length
  · have e : n.drop i = n[i] :: n[i + 1] :: n.drop (i + 2) := by
      rw [List.drop_eq_getElem_cons (by omega), List.drop_eq_getElem_cons hlt]
    have r0 : rd n (i : Int) = n[i] := by
      unfold rd
      rw [show ((i : Int)).toNat = i from rfl, List.getD_eq_getElem?_getD, List.getElem?_eq_getElem (by omega)]
      rfl
    have r1 : rd n ((i : Int) + 1) = n[i + 1] := by
      unfold rd
      rw [show ((i : Int) + 1).toNat = i + 1 from rfl, List.getD_eq_getElem?_getD, List.getElem?_eq_getElem hlt]
      rfl
    have h := ih (d - 1) (by omega) (i + 2) (p ++ [(n[i], n[i + 1])]) (by omega) (by simp; omega) (by omega)
    rw [List.append_assoc, List.singleton_append] at h
    rw [e]
    show Ev _ ((normL (p ++ (n[i], n[i + 1]) :: pairs (n.drop (i + 2)))).map toRg)
    refine Ev.step (fun k => ?_) h
    rw [burinref04_list.l0, w1, if_pos (by omega), if_pos (by omega), if_pos (by omega), if_pos (by omega), if_pos (by rw [List.length_map]; omega), r0, r1, w2]
    simp only [List.map_append, List.map_cons, List.map_nil]
    rfl
  · have e : pairs (n.drop i) = [] := by
      have hl : (n.drop i).length ≤ 1 := by rw [List.length_drop]; omega
      generalize n.drop i = q at hl ⊢
      match q, hl with
      | [], _ => rfl
      | [a], _ => rfl
    rw [e, List.append_nil]
    refine Ev.step (fun k => ?_) (Ev.bind (rnorm_ev p (by omega)) (Ev.now _))
    rw [burinref04_list.l0, w1, if_neg (by omega)]
theorem list_ev (n : List Int) (hn : n.length ≤ 100000) : Ev (fun k => burinref04_list.f k n) ((normL (pairs n)).map toRg) := list_l0 n hn n.length 0 [] (by omega) (by simp) (by omega)
theorem bare_caret (t : ByteArray) : burinref04_bare.f ((⟨#[94]⟩ : ByteArray) ++ t) = some (t, true) := by
  obtain ⟨⟨l⟩⟩ := t
  rw [caret_app]
  unfold burinref04_bare.f
  have hb : bt ⟨⟨94 :: l⟩⟩ 0 = 94 := by
    unfold bt
    rw [dif_pos (by simp [sz_cons])]
    rfl
  rw [sz_cons, if_pos (by omega), if_pos (by omega), hb, if_pos rfl, if_pos (by omega), ex1n]
theorem bare_plain {s : ByteArray} (h : caret s = false) : burinref04_bare.f s = some (s, false) := by
  obtain ⟨⟨l⟩⟩ := s
  unfold burinref04_bare.f
  cases l with
  | nil => rw [if_neg (by decide)]
  | cons c t =>
    have hb : bt ⟨⟨c :: t⟩⟩ 0 = (c.toNat : Int) := by
      unfold bt
      rw [dif_pos (by simp [sz_cons])]
      rfl
    rw [sz_cons, if_pos (by omega), if_pos (by omega), hb, if_neg]
    intro e
    have : c = 94 := by
      apply UInt8.toNat_inj.1
      show c.toNat = 94
      omega
    subst this
    simp [caret] at h
def ansN : Option (List Int) → List Int × Bool
  | none => ([], false)
  | some n => (n, true)
/-- What the document's answer does with a table. -/
def refC (k : Nat) (s : ByteArray) (tn : List (List UInt8 × List Int)) : Option (List S36 × Int) := (burinref04_bare.f s).bind fun bt309 => ((some (ansN (look tn bt309.1.toList))).bind fun bt311 => (if bt311.2 = true then (if bt309.2 = true then ((burinref04_list.f k bt311.1).bind fun t315 => ((burinref02_Not.f k t315).bind fun t318 => (some (t318, 0)))) else ((burinref04_list.f k bt311.1).bind fun t321 => (some (t321, 0)))) else (some (([] : List S36), 70))))
theorem both_ev {l : List S105} {tn : List (List UInt8 × List Int)} (ht : tabOk l = true) (htv : tabL l = tn.map fun x => (x.1, pairs x.2)) (hn : ∀ x ∈ tn, x.2.length ≤ 1000) (s : ByteArray) :
    ∃ (L : List S36) (e : Int), L.length ≤ 2000000 ∧ Ev (fun k => class_turned.f k l s) (L, e) ∧ Ev (fun k => refC k s tn) (L, e) := by
  have key : ∀ t : ByteArray, (look tn t.toList = none ∧ findV normL (l.map ofNm) t = ([], 70)) ∨ ∃ n : List Int, n.length ≤ 1000 ∧ look tn t.toList = some n ∧ findV normL (l.map ofNm) t = (normL (pairs n), 0) := fun t => by
    rw [find_look, htv, look_map]
    cases hlk : look tn t.toList with
    | none => exact .inl ⟨rfl, rfl⟩
    | some n =>
      obtain ⟨x, hx, rfl⟩ := look_mem hlk
      exact .inr ⟨x.2, hn x hx, rfl, rfl⟩
  cases hca : caret s with
  | true =>
    obtain ⟨t, rfl⟩ : ∃ t, s = (⟨#[94]⟩ : ByteArray) ++ t := by
      obtain ⟨⟨l⟩⟩ := s
      cases l with
      | nil => cases hca
      | cons c t =>
        refine ⟨⟨⟨t⟩⟩, ?_⟩
        rw [caret_app]
        have : c = 94 := by simpa [caret] using hca
        rw [this]
    have g := turned_caret ht t
    unfold lackV at g
    rcases key t with ⟨h1, h2⟩ | ⟨n, hn, h1, h2⟩
    · rw [h2] at g
      refine ⟨[], 70, by simp, g, ?_⟩
      unfold refC
      rw [bare_caret]
      simp only [Option.bind_some]
      rw [h1]
      exact Ev.now _
    · rw [h2, if_pos rfl] at g
      have hl := normL_len (pairs n)
      have hp := pairs_len n
      refine ⟨(notL (normL (pairs n))).map toRg, 0, by rw [List.length_map]; have := notL_len (normL (pairs n)); omega, g, ?_⟩
      unfold refC
      rw [bare_caret]
      simp only [Option.bind_some]
      rw [h1]
      simp only [ansN, if_true]
      exact Ev.bind (list_ev n (by omega)) (Ev.bind (rnot_ev _ (by omega)) (Ev.now _))
  | false =>
    have g := turned_plain ht hca
    rcases key s with ⟨h1, h2⟩ | ⟨n, hn, h1, h2⟩
    · rw [h2] at g
      refine ⟨[], 70, by simp, g, ?_⟩
      unfold refC
      rw [bare_plain hca]
      simp only [Option.bind_some]
      rw [h1]
      exact Ev.now _
    · rw [h2] at g
      have hl := normL_len (pairs n)
      have hp := pairs_len n
      refine ⟨(normL (pairs n)).map toRg, 0, by rw [List.length_map]; omega, g, ?_⟩
      unfold refC
      rw [bare_plain hca]
      simp only [Option.bind_some]
      rw [h1]
      simp only [ansN, if_true, Bool.false_eq_true, if_false]
      exact Ev.bind (list_ev n (by omega)) (Ev.now _)
theorem tab_step {c : Prop} [Decidable c] {X A : Option (List Int × Bool)} {n : List Int} {B : Option (List Int)} (hx : X = some (n, true)) (h : A = some (ansN B)) : (if c then X else A) = some (ansN (if c then some n else B)) := by
  by_cases hc : c
  · rw [if_pos hc, if_pos hc, hx]; rfl
  · rw [if_neg hc, if_neg hc, h]
theorem property_tab (s : ByteArray) : burinref04_property.f s = some (ansN (look propertyT s.toList)) := by
  unfold burinref04_property.f propertyT
  simp only [look]
  repeat' first
    | refine tab_step rfl ?_
    | rfl
theorem properties_at : ∃ l, class_properties.f = some l ∧ tabOk l = true ∧ tabL l = propertyT.map fun x => (x.1, pairs x.2) := ⟨_, rfl, by decide +kernel, by decide +kernel⟩
theorem rdigit_f (k : Nat) {c : Int} (h0 : 0 ≤ c) (h1 : c ≤ 255) : burinref07_Digit.f (k + 2) c = some (digV c) := by
  have w0 : wrap64 c = c := wr rfl (by omega) (by omega)
  unfold burinref07_Digit.f digV
  by_cases a : 48 ≤ c
  · by_cases b : c ≤ 57
    · rw [if_pos a, decide_eq_true b, if_pos ⟨a, b⟩, burinref07_Digit.j0, if_pos rfl, w0, wr (y := c - 48) rfl (by omega) (by omega)]
    · rw [if_pos a, decide_eq_false b, if_neg (fun h => b h.2), burinref07_Digit.j0, if_neg (by decide)]
      by_cases d : 97 ≤ c
      · by_cases e : c ≤ 102
        · rw [if_pos d, decide_eq_true e, if_pos ⟨d, e⟩, burinref07_Digit.j1, if_pos rfl, w0, wr (y := c - 97) rfl (by omega) (by omega), wr (y := c - 87) (by omega) (by omega) (by omega)]
        · rw [if_pos d, decide_eq_false e, if_neg (fun h => e h.2), burinref07_Digit.j1, if_neg (by decide), if_pos (by omega), if_neg (by omega), if_neg (by omega)]
      · rw [if_neg d, if_neg (fun h => d h.1), burinref07_Digit.j1, if_neg (by decide)]
        by_cases f : 65 ≤ c
        · by_cases g : c ≤ 70
          · rw [if_pos f, if_pos g, if_pos ⟨f, g⟩, w0, wr (y := c - 65) rfl (by omega) (by omega), wr (y := c - 55) (by omega) (by omega) (by omega)]
          · rw [if_pos f, if_neg g, if_neg (fun h => g h.2)]
        · rw [if_neg f, if_neg (fun h => f h.1)]
  · rw [if_neg a, if_neg (fun h => a h.1), if_neg (by omega), if_neg (by omega), burinref07_Digit.j0, if_neg (by decide), if_neg (by omega), burinref07_Digit.j1, if_neg (by decide), if_neg (by omega)]
theorem rletter_f {c : Int} : burinref07_Letter.f c = some (letB c) := letter_f (c := c)
theorem rlong_ev (s : List UInt8) : ∀ (l : List UInt8) (i : Nat) (r : Int), s.drop i = l → 3 ≤ i → i ≤ 9 → 0 ≤ r → r < 16 ^ (i - 3) → s.length ≤ 1000000 → Ev (fun k => burinref07_hex.l0 k ⟨⟨s⟩⟩ true i 6 r ((i : Int) - 3)) (longV l i r)
  | [], i, r, h, h3, h9, h0, h1, hs => by
    have hl : s.length ≤ i := List.drop_eq_nil_iff.1 h
    refine Ev.step (f := fun k => burinref07_hex.j3 k ⟨⟨s⟩⟩ true i 6 r ((i : Int) - 3) false) (fun k => ?_) (Ev.step (fun k => ?_) (Ev.now _))
    · rw [burinref07_hex.l0]
      by_cases e : (i : Int) - 3 = 6
      · rw [if_pos e]; rfl
      · rw [if_neg e]
    · rw [burinref07_hex.j3, if_neg (by decide), sz, if_pos (by omega)]
      rfl
  | c :: t, i, r, h, h3, h9, h0, h1, hs => by
    obtain ⟨hb, hi, ht⟩ := bt_drop h
    have hc := u8_in c
    have hd := digV_in c.toNat
    have hr : r < 16777216 := Int.lt_of_lt_of_le h1 (by
      have : i - 3 = 0 ∨ i - 3 = 1 ∨ i - 3 = 2 ∨ i - 3 = 3 ∨ i - 3 = 4 ∨ i - 3 = 5 ∨ i - 3 = 6 := by omega
      rcases this with e | e | e | e | e | e | e <;> rw [e] <;> decide)
    have hj : ∀ b : Bool, b = decide ((c.toNat : Int) = 125 ∧ 3 < i ∧ r ≤ 1114111) → Ev (fun k => burinref07_hex.j4 k ⟨⟨s⟩⟩ true i 6 r ((i : Int) - 3) b) (longV (c :: t) i r) := by
      intro b hb2
      unfold longV
      by_cases g : (c.toNat : Int) = 125 ∧ 3 < i ∧ r ≤ 1114111
      · rw [if_pos g]
        rw [decide_eq_true g] at hb2
        subst hb2
        refine Ev.step (fun k => ?_) (Ev.now _)
        rw [burinref07_hex.j4, if_pos rfl, wr (y := (i : Int) + 1) rfl (by omega) (by omega)]
      · rw [if_neg g]
        rw [decide_eq_false g] at hb2
        subst hb2
        have hd2 : ∀ k, burinref07_hex.j4 (k + 2 + 1) ⟨⟨s⟩⟩ true i 6 r ((i : Int) - 3) false = if digV c.toNat < 0 then some (0, 0, 80) else if (i : Int) - 3 = 6 then some (0, 0, 80) else burinref07_hex.l0 (k + 2) ⟨⟨s⟩⟩ true (wrap64 ((i : Int) + 1)) 6 (wrap64 (wrap64 (r * 16) + digV c.toNat)) (wrap64 ((i : Int) - 3 + 1)) := fun k => by
          rw [burinref07_hex.j4, if_neg (by decide), if_pos (by omega), sz, if_pos (by omega), hb, rdigit_f _ hc.1 hc.2, Option.bind_some]
        by_cases e1 : digV c.toNat < 0
        · rw [if_pos (.inl e1)]
          refine ⟨3, fun k hk => ?_⟩
          obtain ⟨m, rfl⟩ : ∃ m, k = m + 2 + 1 := ⟨k - 3, by omega⟩
          show burinref07_hex.j4 _ _ _ _ _ _ _ _ = _
          rw [hd2, if_pos e1]
        · by_cases e2 : i = 9
          · rw [if_pos (.inr e2)]
            refine ⟨3, fun k hk => ?_⟩
            obtain ⟨m, rfl⟩ : ∃ m, k = m + 2 + 1 := ⟨k - 3, by omega⟩
            show burinref07_hex.j4 _ _ _ _ _ _ _ _ = _
            rw [hd2, if_neg e1, if_pos (by omega)]
          · rw [if_neg (fun h => h.elim e1 e2)]
            obtain ⟨K, hK⟩ := rlong_ev s t (i + 1) (16 * r + digV c.toNat) ht (by omega) (by omega) (by omega) (by rw [show i + 1 - 3 = (i - 3) + 1 by omega, Int.pow_succ]; omega) hs
            refine ⟨K + 3, fun k hk => ?_⟩
            obtain ⟨m, rfl⟩ : ∃ m, k = m + 2 + 1 := ⟨k - 3, by omega⟩
            have h2 := hK (m + 2) (by omega)
            show burinref07_hex.j4 _ _ _ _ _ _ _ _ = _
            rw [hd2, if_neg e1, if_neg (by omega), wr (y := r * 16) rfl (by omega) (by omega), wr (x := r * 16 + digV c.toNat) (y := 16 * r + digV c.toNat) (by omega) (by omega) (by omega), wr (x := (i : Int) + 1) (y := ((i + 1 : Nat) : Int)) (by omega) (by omega) (by omega), wr (x := (i : Int) - 3 + 1) (y := ((i + 1 : Nat) : Int) - 3) (by omega) (by omega) (by omega)]
            exact h2
    refine Ev.step (f := fun k => burinref07_hex.j3 k ⟨⟨s⟩⟩ true i 6 r ((i : Int) - 3) false) (fun k => ?_) (Ev.step (f := fun k => burinref07_hex.j4 k ⟨⟨s⟩⟩ true i 6 r ((i : Int) - 3) (decide ((c.toNat : Int) = 125 ∧ 3 < i ∧ r ≤ 1114111))) (fun k => ?_) (hj _ rfl))
    · rw [burinref07_hex.l0]
      by_cases e : (i : Int) - 3 = 6
      · rw [if_pos e]; rfl
      · rw [if_neg e]
    · rw [burinref07_hex.j3, if_neg (by decide), sz, if_neg (by omega), if_pos rfl, if_pos (by omega), if_pos (by omega), hb]
      by_cases g1 : (c.toNat : Int) = 125
      · by_cases g2 : 3 < i
        · rw [if_pos g1, if_pos (by omega), show decide ((c.toNat : Int) = 125 ∧ 3 < i ∧ r ≤ 1114111) = decide (r ≤ 1114111) from by rw [Bool.eq_iff_iff]; simp only [decide_eq_true_eq]; exact ⟨fun h => h.2.2, fun h => ⟨g1, g2, h⟩⟩]
        · rw [if_pos g1, if_neg (by omega), decide_eq_false (fun h : (c.toNat : Int) = 125 ∧ 3 < i ∧ r ≤ 1114111 => g2 h.2.1)]
      · rw [if_neg g1, decide_eq_false (fun h : (c.toNat : Int) = 125 ∧ 3 < i ∧ r ≤ 1114111 => g1 h.1)]
theorem rshort_ev (s : List UInt8) (h2 : 2 ≤ s.length) (hs : s.length ≤ 1000000) : Ev (fun k => burinref07_hex.l0 k ⟨⟨s⟩⟩ false 2 2 0 0) (shortV (s.drop 2)) := by
  have z := sz s
  have step : ∀ (k : Nat) (i : Int) (r q : Int), q < 2 → burinref07_hex.l0 (k + 2 + 1 + 1 + 1) ⟨⟨s⟩⟩ false i 2 r q = if i ≥ (s.length : Int) then some (0, 0, 82) else if 0 ≤ i then (if i < (s.length : Int) then ((burinref07_Digit.f (k + 2) (bt ⟨⟨s⟩⟩ i)).bind fun d => if d < 0 then some (0, 0, 80) else if q = 2 then some (0, 0, 80) else burinref07_hex.l0 (k + 2) ⟨⟨s⟩⟩ false (wrap64 (i + 1)) 2 (wrap64 (wrap64 (r * 16) + d)) (wrap64 (q + 1))) else none) else none := by
    intro k i r q hq
    rw [burinref07_hex.l0, if_neg (by omega), burinref07_hex.j3, if_neg Bool.false_ne_true, z]
    by_cases hi : i ≥ (s.length : Int)
    · rw [if_pos hi, if_pos hi]
    · rw [if_neg hi, if_neg hi, if_neg Bool.false_ne_true, burinref07_hex.j4, if_neg Bool.false_ne_true, z]
  have last : ∀ (k : Nat) (i : Int) (r : Int), burinref07_hex.l0 (k + 1 + 1) ⟨⟨s⟩⟩ false i 2 r 2 = some (r, i, 0) := by
    intro k i r
    rw [burinref07_hex.l0, if_pos rfl, burinref07_hex.j3, if_pos (by decide)]
  refine ⟨20, fun k hk => ?_⟩
  obtain ⟨m, rfl⟩ : ∃ m, k = (m + 3) + 2 + 1 + 1 + 1 := ⟨k - 8, by omega⟩
  show burinref07_hex.l0 _ _ _ _ _ _ _ = _
  cases h : s.drop 2 with
  | nil =>
    have : s.length ≤ 2 := List.drop_eq_nil_iff.1 h
    rw [step _ _ _ _ (by omega), if_pos (by omega)]
    rfl
  | cons a t =>
    obtain ⟨hb, hi, ht⟩ := bt_drop h
    have ha := u8_in a
    have hd := digV_in a.toNat
    rw [step _ _ _ _ (by omega), if_neg (by omega), if_pos (by omega), if_pos (by omega), show (2 : Int) = ((2 : Nat) : Int) from rfl, hb, rdigit_f _ ha.1 ha.2, Option.bind_some]
    by_cases e : digV a.toNat < 0
    · rw [if_pos e]
      cases t with
      | nil => simp only [shortV]; rw [if_pos e]
      | cons b u => simp only [shortV]; rw [if_pos e]
    · rw [if_neg e, if_neg (by decide), show wrap64 (wrap64 (0 * 16) + digV a.toNat) = digV a.toNat from by rw [wr (x := 0 * 16) (y := 0) rfl (by omega) (by omega)]; exact wr (by omega) (by omega) (by omega), wr (x := ((2 : Nat) : Int) + 1) (y := 3) rfl (by omega) (by omega), wr (x := (0 : Int) + 1) (y := 1) rfl (by omega) (by omega)]
      show burinref07_hex.l0 (m + 2 + 1 + 1 + 1) _ _ _ 2 _ _ = _
      rw [step _ _ _ _ (by omega)]
      cases t with
      | nil =>
        have : s.length ≤ 3 := List.drop_eq_nil_iff.1 ht
        rw [if_pos (by omega)]
        simp only [shortV]; rw [if_neg e]
      | cons b u =>
        obtain ⟨hb2, hi2, ht2⟩ := bt_drop ht
        have hb' := u8_in b
        have hd' := digV_in b.toNat
        rw [if_neg (by omega), if_pos (by omega), if_pos (by omega), show (3 : Int) = ((2 + 1 : Nat) : Int) from rfl, hb2, rdigit_f _ hb'.1 hb'.2, Option.bind_some]
        by_cases e2 : digV b.toNat < 0
        · rw [if_pos e2]
          simp only [shortV]; rw [if_neg e, if_pos e2]
        · rw [if_neg e2, if_neg (by decide), wr (y := digV a.toNat * 16) rfl (by omega) (by omega), wr (x := digV a.toNat * 16 + digV b.toNat) (y := 16 * digV a.toNat + digV b.toNat) (by omega) (by omega) (by omega), wr (x := ((2 + 1 : Nat) : Int) + 1) (y := 4) rfl (by omega) (by omega), wr (x := (1 : Int) + 1) (y := 2) rfl (by omega) (by omega), last]
          simp only [shortV]; rw [if_neg e, if_neg e2]
/-- The document's answer for an escape of a number. -/
theorem rnum_ev (s : List UInt8) (hs : s.length ≤ 1000000) : Ev (fun k => burinref07_Number.f k ⟨⟨s⟩⟩) (escV s) := by
  have z := sz s
  have bad : ∀ k, burinref07_Number.j0 (k + 1) ⟨⟨s⟩⟩ true = some (0, 0, 3) := fun k => by rw [burinref07_Number.j0, if_pos rfl]
  match s, z, hs, bad with
  | [], z, _, bad => exact Ev.congr (f := fun k => burinref07_Number.j0 k ⟨⟨[]⟩⟩ true) (fun k => by unfold burinref07_Number.f; rw [z]; rfl) (Ev.step bad (Ev.now _))
  | c :: t, z, hs, bad =>
    have hb : bt ⟨⟨c :: t⟩⟩ 0 = (c.toNat : Int) := (bt_drop (l := c :: t) (i := 0) rfl).1
    have hc := u8_in c
    have h00 : ∀ k, burinref07_Number.f k ⟨⟨c :: t⟩⟩ = burinref07_Number.j0 k ⟨⟨c :: t⟩⟩ ((c.toNat : Int) != 92) := fun k => by
      unfold burinref07_Number.f
      rw [z, if_neg (by simp only [List.length_cons]; omega), if_pos (by simp only [List.length_cons]; omega), hb]
    refine Ev.congr h00 ?_
    by_cases e : (c.toNat : Int) = 92
    · rw [show ((c.toNat : Int) != 92) = false by rw [e]; rfl]
      cases t with
      | nil => exact Ev.step (f := fun _ => some (0, 0, 82)) (fun k => by rw [burinref07_Number.j0, if_neg (by decide), z, if_pos (by simp)]) (by simp only [escV]; rw [if_pos e]; exact Ev.now _)
      | cons d u =>
        have hd := u8_in d
        have hb1 : bt ⟨⟨c :: d :: u⟩⟩ 1 = (d.toNat : Int) := (bt_drop (l := c :: d :: u) (i := 1) rfl).1
        have wd : wrap64 (d.toNat : Int) = d.toNat := wr rfl (by omega) (by omega)
        have hhex : (d.toNat : Int) = 120 → Ev (fun k => burinref07_hex.f k ⟨⟨c :: d :: u⟩⟩) (if u.head? = some 123 then longV u.tail 3 0 else shortV u) := by
          intro e2
          cases u with
          | nil =>
            refine Ev.congr (f := fun k => burinref07_hex.j0 k ⟨⟨[c, d]⟩⟩ false) (fun k => by unfold burinref07_hex.f; rw [z, if_neg (by simp)]) (Ev.step (f := fun k => burinref07_hex.j1 k ⟨⟨[c, d]⟩⟩ false 2 2) (fun k => by rw [burinref07_hex.j0, if_neg (by decide)]) (Ev.step (fun k => by rw [burinref07_hex.j1]) (rshort_ev [c, d] (by simp) hs)))
          | cons f v =>
            have hb2 : bt ⟨⟨c :: d :: f :: v⟩⟩ 2 = (f.toNat : Int) := (bt_drop (l := c :: d :: f :: v) (i := 2) rfl).1
            have hl2 : (2 : Int) < ((c :: d :: f :: v).length : Int) := by simp only [List.length_cons]; omega
            refine Ev.congr (f := fun k => burinref07_hex.j0 k ⟨⟨c :: d :: f :: v⟩⟩ ((f.toNat : Int) == 123)) (fun k => by unfold burinref07_hex.f; rw [z, if_pos hl2, if_pos hl2, hb2]) ?_
            by_cases e3 : (f.toNat : Int) = 123
            · have hf : f = 123 := u8_eq (n := 123) e3 (by omega)
              rw [show ((f.toNat : Int) == 123) = true by rw [e3]; rfl, if_pos (by rw [hf]; rfl)]
              exact Ev.step (f := fun k => burinref07_hex.j1 k ⟨⟨c :: d :: f :: v⟩⟩ true 3 6) (fun k => by rw [burinref07_hex.j0, if_pos rfl]) (Ev.step (fun k => by rw [burinref07_hex.j1]; rfl) (rlong_ev (c :: d :: f :: v) v 3 0 rfl (by omega) (by omega) (by omega) (by decide) hs))
            · rw [show ((f.toNat : Int) == 123) = false from beq_eq_false_iff_ne.mpr e3, if_neg (by simp; intro h; subst h; exact e3 rfl)]
              exact Ev.step (f := fun k => burinref07_hex.j1 k ⟨⟨c :: d :: f :: v⟩⟩ false 2 2) (fun k => by rw [burinref07_hex.j0, if_neg (by decide)]) (Ev.step (fun k => by rw [burinref07_hex.j1]) (rshort_ev (c :: d :: f :: v) (by simp) hs))
        have h0 : ∀ k, burinref07_Number.j0 (k + 1) ⟨⟨c :: d :: u⟩⟩ false = match plainV d.toNat with
            | some v => some (v, 2, 0)
            | none => if (d.toNat : Int) = 120 then burinref07_hex.f k ⟨⟨c :: d :: u⟩⟩ else if (d.toNat : Int) < 33 ∨ (d.toNat : Int) > 126 ∨ letB d.toNat = true ∨ 48 ≤ (d.toNat : Int) ∧ (d.toNat : Int) ≤ 57 then some (0, 0, 80) else some ((d.toNat : Int), 2, 0) := fun k => by
          rw [burinref07_Number.j0, if_neg (by decide), z, if_neg (by simp only [List.length_cons]; omega), if_pos (by simp only [List.length_cons]; omega), hb1, wd, rletter_f]
          unfold plainV
          by_cases g1 : (d.toNat : Int) = 97
          · rw [if_pos g1, if_pos g1]
          rw [if_neg g1, if_neg g1]
          by_cases g2 : (d.toNat : Int) = 102
          · rw [if_pos g2, if_pos g2]
          rw [if_neg g2, if_neg g2]
          by_cases g3 : (d.toNat : Int) = 116
          · rw [if_pos g3, if_pos g3]
          rw [if_neg g3, if_neg g3]
          by_cases g4 : (d.toNat : Int) = 110
          · rw [if_pos g4, if_pos g4]
          rw [if_neg g4, if_neg g4]
          by_cases g5 : (d.toNat : Int) = 114
          · rw [if_pos g5, if_pos g5]
          rw [if_neg g5, if_neg g5]
          by_cases g6 : (d.toNat : Int) = 118
          · rw [if_pos g6, if_pos g6]
          rw [if_neg g6, if_neg g6]
          by_cases g7 : (d.toNat : Int) = 120
          · rw [if_pos g7]
            dsimp only
            rw [if_pos g7]
            cases burinref07_hex.f k ⟨⟨c :: d :: u⟩⟩ <;> rfl
          rw [if_neg g7]
          dsimp only
          rw [if_neg g7]
          by_cases g8 : (d.toNat : Int) < 33
          · rw [if_pos g8, if_pos (.inl g8)]
          rw [if_neg g8]
          by_cases g9 : (d.toNat : Int) > 126
          · rw [if_pos g9, if_pos (.inr (.inl g9))]
          rw [if_neg g9, Option.bind_some]
          by_cases g10 : letB d.toNat = true
          · rw [if_pos g10, if_pos (.inr (.inr (.inl g10)))]
          rw [if_neg g10]
          by_cases g11 : (d.toNat : Int) ≥ 48
          · by_cases g12 : (d.toNat : Int) ≤ 57
            · rw [if_pos g11, if_pos g12, if_pos (.inr (.inr (.inr ⟨g11, g12⟩)))]
            · rw [if_pos g11, if_neg g12, if_neg (fun h => h.elim g8 (fun h => h.elim g9 (fun h => h.elim g10 (fun h => g12 h.2))))]
          · rw [if_neg g11, if_neg (fun h => h.elim g8 (fun h => h.elim g9 (fun h => h.elim g10 (fun h => g11 h.1))))]
        simp only [escV]
        rw [if_pos e]
        refine Ev.step h0 ?_
        cases hp : plainV (d.toNat : Int) with
        | some v => exact Ev.now _
        | none =>
          dsimp only
          by_cases e2 : (d.toNat : Int) = 120
          · simp only [if_pos e2]
            exact hhex e2
          · simp only [if_neg e2]
            refine ev_const fun k => ?_
            split <;> rfl
    · rw [show ((c.toNat : Int) != 92) = true from bne_iff_ne.mpr e]
      cases t with
      | nil => simp only [escV]; rw [if_neg e]; exact Ev.step bad (Ev.now _)
      | cons d u => simp only [escV]; rw [if_neg e]; exact Ev.step bad (Ev.now _)
/-- What a letter stands for. -/
def letV (c : Int) : List S36 × Int := (class_Letter.f 90 c).getD ([], 70)
def letOk (c : Int) : Bool := match class_Letter.f 90 c with
  | none => false
  | some a => (decide (a.2 = 0) || (decide (a.2 = 70) && a.1.isEmpty)) && decide (a.1.length ≤ 1001)
set_option maxRecDepth 100000 in
theorem lets_ok : (List.range 256).all (fun n => letOk (n : Int)) = true := by decide +kernel
theorem let_ev {c : Int} (h0 : 0 ≤ c) (h1 : c ≤ 255) : Ev (fun k => class_Letter.f k c) (letV c) ∧ ((letV c).2 = 0 ∨ letV c = ([], 70)) ∧ (letV c).1.length ≤ 1001 := by
  have h := List.all_eq_true.1 lets_ok c.toNat (List.mem_range.2 (by omega))
  rw [show ((c.toNat : Nat) : Int) = c by omega] at h
  unfold letOk at h
  unfold letV
  cases hc : class_Letter.f 90 c with
  | none => rw [hc] at h; cases h
  | some a =>
    rw [hc] at h
    simp only [Bool.and_eq_true, Bool.or_eq_true, decide_eq_true_eq, List.isEmpty_iff] at h
    obtain ⟨a1, a2⟩ := a
    refine ⟨Ev.of (fun k => class_Letter.mono _ k) hc, ?_, h.2⟩
    rcases h.1 with h | h
    · exact .inl h
    · exact .inr (Prod.ext h.2 h.1)
/-- What a name stands for, the sign for what it lacks ahead or not. -/
def turnV (l : List S105) (s : List UInt8) : List (Int × Int) × Int := if s.head? = some 94 then lackV l ⟨⟨s.tail⟩⟩ else findV normL (l.map ofNm) ⟨⟨s⟩⟩
theorem find_small {l : List S105} (h : tabOk l = true) (s : ByteArray) : (findV normL (l.map ofNm) s).1.length ≤ 1000 := by
  obtain ⟨_, hg⟩ := good_nm (tab_good h).1
  unfold findV
  cases hf : (l.map ofNm).find? (isNm s) with
  | none => simp
  | some x =>
    have h1 := (hg x (List.mem_of_find?_eq_some hf)).2.1
    have h2 := normL_len (piecesV x.2)
    have h3 : (piecesV x.2).length = splitN x.2 := by unfold piecesV; rw [List.length_map, split_len]
    dsimp only
    omega
theorem turn_ev {l : List S105} (h : tabOk l = true) (s : List UInt8) : Ev (fun k => class_turned.f k l ⟨⟨s⟩⟩) ((turnV l s).1.map toRg, (turnV l s).2) := by
  unfold turnV
  by_cases e : s.head? = some 94
  · rw [if_pos e]
    cases s with
    | nil => cases e
    | cons c t =>
      obtain rfl : c = 94 := by simpa using e
      have := turned_caret h ⟨⟨t⟩⟩
      rwa [caret_app] at this
  · rw [if_neg e]
    exact turned_plain h (by unfold caret; exact beq_eq_false_iff_ne.mpr e)
theorem turn_fact {l : List S105} (h : tabOk l = true) (s : List UInt8) : Nrm (turnV l s).1 ∧ (turnV l s).1.length ≤ 1001 ∧ ((turnV l s).2 = 0 ∨ turnV l s = ([], 70)) := by
  unfold turnV
  split
  · obtain ⟨h1, h2, h3⟩ := find_fact h ⟨⟨s.tail⟩⟩
    have h4 := find_small h ⟨⟨s.tail⟩⟩
    unfold lackV
    split
    · exact ⟨notL_nrm _, by have := notL_len (findV normL (l.map ofNm) ⟨⟨s.tail⟩⟩).1; dsimp only; omega, .inl rfl⟩
    · exact ⟨Nrm.nil, by simp, .inr rfl⟩
  · obtain ⟨h1, h2, h3⟩ := find_fact h ⟨⟨s⟩⟩
    exact ⟨h1, by have := find_small h ⟨⟨s⟩⟩; omega, h3⟩
def proTab : List S105 := (class_properties.f).getD []
theorem pro_tab : class_properties.f = some proTab ∧ tabOk proTab = true := ⟨rfl, by decide +kernel⟩
theorem pro_ev (s : List UInt8) : Ev (fun k => class_Property.f k ⟨⟨s⟩⟩) ((turnV proTab s).1.map toRg, (turnV proTab s).2) := by
  obtain ⟨K, hK⟩ := turn_ev pro_tab.2 s
  exact ⟨K, fun k hk => by
    show class_Property.f k _ = _
    unfold class_Property.f
    rw [pro_tab.1, Option.bind_some, show class_turned.f k proTab _ = _ from hK k hk]
    rfl⟩
/-- A property: whether turned round, its name, the bytes it takes. -/
def proV (neg : Bool) (nm : List UInt8) (n : Int) : List S36 × Int × Int :=
  if (turnV proTab nm).2 = 0 then ((if neg then notL (turnV proTab nm).1 else (turnV proTab nm).1).map toRg, n, 0) else ([], 0, 70)
def propV (neg : Bool) : List UInt8 → List S36 × Int × Int
  | [] => ([], 0, 82)
  | d :: v => if (d.toNat : Int) = 123 then (match (cutL 125 v).2 with
      | none => ([], 0, 82)
      | some _ => proV neg (cutL 125 v).1 (((cutL 125 v).1.length : Int) + 4))
    else if letB d.toNat = true then proV neg [d] 3 else ([], 0, 70)
def isLet (c : Int) : Bool := decide (c = 100 ∨ c = 115 ∨ c = 119 ∨ c = 68 ∨ c = 83 ∨ c = 87)
/-- An escape of a set. -/
def setV : List UInt8 → List S36 × Int × Int
  | [] => ([], 0, 3)
  | [c] => if (c.toNat : Int) = 92 then ([], 0, 5) else ([], 0, 3)
  | c :: d :: t => if (c.toNat : Int) = 92 then (if isLet d.toNat = true then ((letV d.toNat).1, 2, (letV d.toNat).2) else if (d.toNat : Int) = 112 ∨ (d.toNat : Int) = 80 then propV (decide ((d.toNat : Int) = 80)) t else ([], 0, 5)) else ([], 0, 3)
theorem proj_ev (s : List UInt8) (d : UInt8) (neg : Bool) (hb : bt ⟨⟨s⟩⟩ 1 = (d.toNat : Int)) (h1 : 1 < s.length) (hd : neg = decide ((d.toNat : Int) = 80)) (nm : List UInt8) (n : Int) : Ev (fun k => bracket_property.j0 k ⟨⟨s⟩⟩ n ⟨⟨nm⟩⟩) (proV neg nm n) := by
  obtain ⟨K, hK⟩ := pro_ev nm
  obtain ⟨f1, f2, f3⟩ := turn_fact pro_tab.2 nm
  obtain ⟨K2, hK2⟩ := not_ev ((turnV proTab nm).1.map toRg) (by rw [List.length_map]; omega)
  refine ⟨K + K2 + 1, fun k hk => ?_⟩
  obtain ⟨m, rfl⟩ : ∃ m, k = m + 1 := ⟨k - 1, by omega⟩
  have q1 : class_Property.f m _ = _ := hK m (by omega)
  have q2 : ranges_Not.f m _ = _ := hK2 m (by omega)
  rw [map_forth] at q2
  show bracket_property.j0 (m + 1) _ _ _ = _
  rw [bracket_property.j0, q1, Option.bind_some]
  unfold proV
  rcases f3 with f3 | f3
  · rw [if_pos f3, if_pos f3, sz, if_pos (by omega), hb]
    by_cases e : (d.toNat : Int) = 80
    · rw [if_pos e, q2, Option.bind_some, hd, decide_eq_true e, if_pos rfl]
    · rw [if_neg e, hd, decide_eq_false e, if_neg (by decide)]
  · rw [f3]
    rfl
theorem ex_list (l : List UInt8) (a b : Nat) : (ByteArray.mk ⟨l⟩).extract a b = ⟨⟨(l.drop a).take (b - a)⟩⟩ := by
  apply ByteArray.ext
  rw [ByteArray.data_extract]
  apply Array.ext'
  rw [Array.toList_extract, List.extract_eq_take_drop]
theorem idx_cons {b c : UInt8} {l : List UInt8} (h : b ≠ c) : Lib.indexByte (b :: l) c = if Lib.indexByte l c = -1 then -1 else Lib.indexByte l c + 1 := by
  rw [Lib.indexByte, if_neg (by simpa using h)]
  by_cases e : Lib.indexByte l c = -1
  · rw [if_pos (by simpa using e), if_pos e]
  · rw [if_neg (by simpa using e), if_neg e]
theorem prop_ev (c d : UInt8) (t : List UInt8) (neg : Bool) (hn : neg = decide ((d.toNat : Int) = 80)) (hs : (c :: d :: t).length ≤ 1000000) (hc : c ≠ 125) (hd : d ≠ 125) : Ev (fun k => bracket_property.f k ⟨⟨c :: d :: t⟩⟩) (propV neg t) := by
  have z := sz (c :: d :: t)
  have hb1 : bt ⟨⟨c :: d :: t⟩⟩ 1 = (d.toNat : Int) := (bt_drop (l := c :: d :: t) (i := 1) rfl).1
  have hj := proj_ev (c :: d :: t) d neg hb1 (by simp) hn
  cases t with
  | nil => exact ev_const fun k => by unfold bracket_property.f; rw [z, if_pos (by rfl)]; rfl
  | cons f v =>
    have hb2 : bt ⟨⟨c :: d :: f :: v⟩⟩ 2 = (f.toNat : Int) := (bt_drop (l := c :: d :: f :: v) (i := 2) rfl).1
    have hl : ((c :: d :: f :: v).length : Int) = v.length + 3 := by simp only [List.length_cons]; omega
    have h0 : ∀ k, bracket_property.f k ⟨⟨c :: d :: f :: v⟩⟩ = if (f.toNat : Int) = 123 then (if Lib.indexByte (c :: d :: f :: v) 125 < 0 then some ([], 0, 82) else if 3 ≤ Lib.indexByte (c :: d :: f :: v) 125 then (if Lib.indexByte (c :: d :: f :: v) 125 ≤ ((c :: d :: f :: v).length : Int) then bracket_property.j0 k ⟨⟨c :: d :: f :: v⟩⟩ (wrap64 (Lib.indexByte (c :: d :: f :: v) 125 + 1)) ((ByteArray.mk ⟨c :: d :: f :: v⟩).extract 3 (Lib.indexByte (c :: d :: f :: v) 125).toNat) else none) else none)
        else if letB f.toNat = true then bracket_property.j0 k ⟨⟨c :: d :: f :: v⟩⟩ 3 ((ByteArray.mk ⟨c :: d :: f :: v⟩).extract 2 3) else some ([], 0, 70) := fun k => by
      unfold bracket_property.f
      rw [z, if_neg (by omega), if_pos (by omega), if_pos (by omega), if_pos (by omega), hb2, letter_f]
      rfl
    simp only [propV]
    by_cases e : (f.toNat : Int) = 123
    · rw [if_pos e]
      have hf : f = 123 := u8_eq (n := 123) e (by omega)
      have hix : Lib.indexByte (c :: d :: f :: v) 125 = if Lib.indexByte v 125 = -1 then -1 else Lib.indexByte v 125 + 3 := by
        subst hf
        rw [idx_cons hc, idx_cons hd, idx_cons (show (123 : UInt8) ≠ 125 by decide)]
        rcases cutL_spec 125 v with ⟨h1, _⟩ | ⟨i, h1, _⟩
        · rw [h1]; decide
        · rw [h1]
          repeat' split
          all_goals omega
      rcases cutL_spec 125 v with ⟨h1, h2⟩ | ⟨i, h1, h2⟩
      · rw [h2]
        rw [h1, if_pos rfl] at hix
        exact ev_const fun k => by rw [h0, if_pos e, hix, if_pos (by omega)]
      · rw [h2]
        rw [h1, if_neg (by omega)] at hix
        have hlt := index_lt v 125
        rw [h1] at hlt
        have hn := hj (v.take i) ((i : Int) + 4)
        dsimp only
        rw [show ((v.take i).length : Int) = i by rw [List.length_take]; omega]
        refine Ev.congr (fun k => ?_) hn
        rw [h0, if_pos e, hix, if_neg (by omega), if_pos (by omega), if_pos (by omega), wr (x := (i : Int) + 3 + 1) (y := (i : Int) + 4) (by omega) (by omega) (by omega), show ((i : Int) + 3).toNat = i + 3 by omega, ex_list]
        rw [show i + 3 - 3 = i by omega]
        rfl
    · rw [if_neg e]
      by_cases e2 : letB f.toNat = true
      · rw [if_pos e2]
        exact Ev.congr (fun k => by rw [h0, if_neg e, if_pos e2, ex_list]; rfl) (hj [f] 3)
      · rw [if_neg e2]
        exact ev_const fun k => by rw [h0, if_neg e, if_neg e2]
/-- The program's answer for an escape of a set. -/
theorem set_ev (s : List UInt8) (hs : s.length ≤ 1000000) : Ev (fun k => bracket_Set.f k ⟨⟨s⟩⟩) (setV s) := by
  have z := sz s
  have bad : ∀ k, bracket_Set.j0 (k + 1) ⟨⟨s⟩⟩ true = some ([], 0, 3) := fun k => by rw [bracket_Set.j0, if_pos rfl]
  match s, z, hs, bad with
  | [], z, _, bad => exact Ev.congr (f := fun k => bracket_Set.j0 k ⟨⟨[]⟩⟩ true) (fun k => by unfold bracket_Set.f; rw [tl]; rfl) (Ev.step bad (Ev.now _))
  | c :: t, z, hs, bad =>
    have hb : bt ⟨⟨c :: t⟩⟩ 0 = (c.toNat : Int) := (bt_drop (l := c :: t) (i := 0) rfl).1
    have h00 : ∀ k, bracket_Set.f k ⟨⟨c :: t⟩⟩ = bracket_Set.j0 k ⟨⟨c :: t⟩⟩ ((c.toNat : Int) != 92) := fun k => by
      unfold bracket_Set.f
      rw [tl, if_neg (by simp), z, if_pos (by simp only [List.length_cons]; omega), hb]
    refine Ev.congr h00 ?_
    by_cases e : (c.toNat : Int) = 92
    · rw [show ((c.toNat : Int) != 92) = false by rw [e]; rfl]
      cases t with
      | nil => exact Ev.step (f := fun _ => some ([], 0, 5)) (fun k => by rw [bracket_Set.j0, if_neg (by decide), z, if_pos (by simp)]) (by simp only [setV]; rw [if_pos e]; exact Ev.now _)
      | cons d u =>
        have hd := u8_in d
        have hb1 : bt ⟨⟨c :: d :: u⟩⟩ 1 = (d.toNat : Int) := (bt_drop (l := c :: d :: u) (i := 1) rfl).1
        have hl : 1 < ((c :: d :: u).length : Int) := by simp only [List.length_cons]; omega
        obtain ⟨hlet, _, _⟩ := let_ev hd.1 hd.2
        have hle : Ev (fun k => (class_Letter.f k (d.toNat : Int)).bind fun bt => some (bt.1, (2 : Int), bt.2)) ((letV d.toNat).1, 2, (letV d.toNat).2) := Ev.bind hlet (Ev.now _)
        have j1t : Ev (fun k => bracket_Set.j1 k ⟨⟨c :: d :: u⟩⟩ d.toNat true) ((letV d.toNat).1, 2, (letV d.toNat).2) := Ev.step (fun k => by rw [bracket_Set.j1, if_pos rfl, z, if_pos hl, hb1]) hle
        have j2t : Ev (fun k => bracket_Set.j2 k ⟨⟨c :: d :: u⟩⟩ d.toNat true) ((letV d.toNat).1, 2, (letV d.toNat).2) := Ev.step (fun k => by rw [bracket_Set.j2, if_pos rfl, z, if_pos hl, hb1]) hle
        have h1 : ∀ k, bracket_Set.j0 (k + 1) ⟨⟨c :: d :: u⟩⟩ false = bracket_Set.j1 k ⟨⟨c :: d :: u⟩⟩ d.toNat (decide ((d.toNat : Int) = 100 ∨ (d.toNat : Int) = 115 ∨ (d.toNat : Int) = 119)) := fun k => by
          rw [bracket_Set.j0, if_neg (by decide), z, if_neg (by omega), if_pos hl, hb1]
          by_cases g1 : (d.toNat : Int) = 100
          · rw [if_pos g1, g1]; rfl
          by_cases g2 : (d.toNat : Int) = 115
          · rw [if_neg g1, if_pos g2, g2]; rfl
          rw [if_neg g1, if_neg g2]
          congr 1
          rw [Bool.eq_iff_iff]
          simp only [beq_iff_eq, decide_eq_true_eq]
          omega
        have h2 : ∀ k, bracket_Set.j1 (k + 1) ⟨⟨c :: d :: u⟩⟩ d.toNat false = bracket_Set.j2 k ⟨⟨c :: d :: u⟩⟩ d.toNat (decide ((d.toNat : Int) = 68 ∨ (d.toNat : Int) = 83 ∨ (d.toNat : Int) = 87)) := fun k => by
          rw [bracket_Set.j1, if_neg (by decide)]
          by_cases g1 : (d.toNat : Int) = 68
          · rw [if_pos g1, g1]; rfl
          by_cases g2 : (d.toNat : Int) = 83
          · rw [if_neg g1, if_pos g2, g2]; rfl
          rw [if_neg g1, if_neg g2]
          congr 1
          rw [Bool.eq_iff_iff]
          simp only [beq_iff_eq, decide_eq_true_eq]
          omega
        have h3 : ∀ k, bracket_Set.j2 (k + 1) ⟨⟨c :: d :: u⟩⟩ d.toNat false = bracket_Set.j3 k ⟨⟨c :: d :: u⟩⟩ (decide ((d.toNat : Int) = 112 ∨ (d.toNat : Int) = 80)) := fun k => by
          rw [bracket_Set.j2, if_neg (by decide)]
          by_cases g1 : (d.toNat : Int) = 112
          · rw [if_pos g1, g1]; rfl
          rw [if_neg g1]
          congr 1
          rw [Bool.eq_iff_iff]
          simp only [beq_iff_eq, decide_eq_true_eq]
          omega
        simp only [setV]
        rw [if_pos e]
        refine Ev.step h1 ?_
        by_cases a1 : (d.toNat : Int) = 100 ∨ (d.toNat : Int) = 115 ∨ (d.toNat : Int) = 119
        · rw [decide_eq_true a1, if_pos (show isLet d.toNat = true from decide_eq_true (by omega))]
          exact j1t
        rw [decide_eq_false a1]
        refine Ev.step h2 ?_
        by_cases a2 : (d.toNat : Int) = 68 ∨ (d.toNat : Int) = 83 ∨ (d.toNat : Int) = 87
        · rw [decide_eq_true a2, if_pos (show isLet d.toNat = true from decide_eq_true (by omega))]
          exact j2t
        rw [decide_eq_false a2, if_neg (show ¬ isLet d.toNat = true from by unfold isLet; rw [decide_eq_true_eq]; omega)]
        refine Ev.step h3 ?_
        by_cases a3 : (d.toNat : Int) = 112 ∨ (d.toNat : Int) = 80
        · rw [decide_eq_true a3, if_pos a3]
          have hne : ∀ x : UInt8, (x.toNat : Int) ≠ 125 → x ≠ 125 := fun x hx h => hx (by rw [h]; rfl)
          refine Ev.step (f := fun k => (bracket_property.f k ⟨⟨c :: d :: u⟩⟩).bind fun bt => some (bt.1, bt.2.1, bt.2.2)) (fun k => by rw [bracket_Set.j3, if_pos rfl]) (Ev.bind (prop_ev c d u _ rfl hs (hne c (by omega)) (hne d (by omega))) (Ev.now _))
        · rw [decide_eq_false a3, if_neg a3]
          exact Ev.step (fun k => by rw [bracket_Set.j3, if_neg (by decide)]) (Ev.now _)
    · rw [show ((c.toNat : Int) != 92) = true from bne_iff_ne.mpr e]
      cases t with
      | nil => simp only [setV]; rw [if_neg e]; exact Ev.step bad (Ev.now _)
      | cons d u => simp only [setV]; rw [if_neg e]; exact Ev.step bad (Ev.now _)
theorem pro_small (neg : Bool) (nm : List UInt8) (n : Int) : (proV neg nm n).1.length ≤ 1002 := by
  obtain ⟨_, h, _⟩ := turn_fact pro_tab.2 nm
  have h2 := notL_len (turnV proTab nm).1
  unfold proV
  split
  · rw [List.length_map]
    split <;> omega
  · simp
theorem prop_small (neg : Bool) (t : List UInt8) : (propV neg t).1.length ≤ 1002 := by
  cases t with
  | nil => simp [propV]
  | cons d v =>
    simp only [propV]
    split
    · split
      · simp
      · exact pro_small _ _ _
    · split
      · exact pro_small _ _ _
      · simp
theorem set_small (s : List UInt8) : (setV s).1.length ≤ 1002 := by
  match s with
  | [] => simp [setV]
  | [c] => simp only [setV]; split <;> simp
  | c :: d :: t =>
    have hd := u8_in d
    obtain ⟨_, _, h⟩ := let_ev hd.1 hd.2
    simp only [setV]
    split
    · split
      · dsimp only; omega
      · split
        · exact prop_small _ _
        · simp
    · simp
theorem ev_uniq {α : Type} {g : Nat → Option α} {a b : α} (h : Ev g a) (k : Ev g b) : a = b := by
  obtain ⟨K, hK⟩ := h
  obtain ⟨M, hM⟩ := k
  have h1 := hK (K + M) (by omega)
  rw [hM (K + M) (by omega)] at h1
  exact (Option.some.inj h1).symm
theorem rpro_ev (s : List UInt8) : Ev (fun k => burinref04_Property.f k ⟨⟨s⟩⟩) ((turnV proTab s).1.map toRg, (turnV proTab s).2) := by
  obtain ⟨l, hl, tl, vl⟩ := properties_at
  have hp : l = proTab := Option.some.inj (hl.symm.trans pro_tab.1)
  subst hp
  obtain ⟨L, e, bL, h1, h2⟩ := both_ev tl vl (by decide) ⟨⟨s⟩⟩
  have he := ev_uniq h1 (turn_ev tl s)
  rw [he] at h2
  refine Ev.congr (fun k => ?_) h2
  unfold burinref04_Property.f refC
  simp only [property_tab]
def rletOk (c : Int) : Bool := match class_Letter.f 90 c, burinref04_Letter.f 90 c with
  | some a, some b => decide (a.1.map ofRg = b.1.map ofRg) && decide (a.2 = b.2) && decide (a.2 = 0 ↔ isLet c = true)
  | _, _ => false
set_option maxRecDepth 100000 in
theorem rlets_ok : (List.range 256).all (fun n => rletOk (n : Int)) = true := by decide +kernel
theorem rlet_ev {c : Int} (h0 : 0 ≤ c) (h1 : c ≤ 255) : Ev (fun k => burinref04_Letter.f k c) (letV c) ∧ ((letV c).2 = 0 ↔ isLet c = true) := by
  have h := List.all_eq_true.1 rlets_ok c.toNat (List.mem_range.2 (by omega))
  rw [show ((c.toNat : Nat) : Int) = c by omega] at h
  unfold rletOk at h
  unfold letV
  cases hc : class_Letter.f 90 c with
  | none => rw [hc] at h; cases h
  | some a =>
    cases hr : burinref04_Letter.f 90 c with
    | none => rw [hc, hr] at h; cases h
    | some b =>
      rw [hc, hr] at h
      simp only [Bool.and_eq_true, decide_eq_true_eq] at h
      obtain ⟨a1, a2⟩ := a
      obtain ⟨b1, b2⟩ := b
      have e1 : a1 = b1 := by have := congrArg (List.map toRg) h.1.1; rwa [map_back, map_back] at this
      have e2 : a2 = b2 := h.1.2
      subst e1 e2
      exact ⟨Ev.of (fun k => burinref04_Letter.mono _ k) hr, h.2⟩
theorem rsetj_ev (s : List UInt8) (d : UInt8) (neg : Bool) (hb : bt ⟨⟨s⟩⟩ 1 = (d.toNat : Int)) (h1 : 1 < s.length) (hd : neg = decide ((d.toNat : Int) = 80)) (nm : List UInt8) (n : Int) : Ev (fun k => burinref07_Set.j3 k ⟨⟨s⟩⟩ ⟨⟨nm⟩⟩ n) (proV neg nm n) := by
  obtain ⟨K, hK⟩ := rpro_ev nm
  obtain ⟨f1, f2, f3⟩ := turn_fact pro_tab.2 nm
  obtain ⟨K2, hK2⟩ := rnot_ev (turnV proTab nm).1 (by omega)
  refine ⟨K + K2 + 1, fun k hk => ?_⟩
  obtain ⟨m, rfl⟩ : ∃ m, k = m + 1 := ⟨k - 1, by omega⟩
  have q1 : burinref04_Property.f m _ = _ := hK m (by omega)
  have q2 : burinref02_Not.f m _ = _ := hK2 m (by omega)
  show burinref07_Set.j3 (m + 1) _ _ _ = _
  rw [burinref07_Set.j3, q1, Option.bind_some]
  unfold proV
  rcases f3 with f3 | f3
  · rw [if_pos f3, if_pos f3, sz, if_pos (by omega), hb]
    by_cases e : (d.toNat : Int) = 80
    · rw [if_pos e, q2, Option.bind_some, hd, decide_eq_true e, if_pos rfl]
    · rw [if_neg e, hd, decide_eq_false e, if_neg (by decide)]
  · rw [f3]
    rfl
/-- The document's search for the closing brace. -/
theorem rset_l0 (s : List UInt8) (d : UInt8) (neg : Bool) (hb : bt ⟨⟨s⟩⟩ 1 = (d.toNat : Int)) (h1 : 3 ≤ s.length) (hs : s.length ≤ 1000000) (hd : neg = decide ((d.toNat : Int) = 80)) : ∀ (v : List UInt8) (i : Nat), s.drop i = v → 3 ≤ i → i ≤ s.length → Ev (fun k => burinref07_Set.l0 k ⟨⟨s⟩⟩ i) (match (cutL 125 v).2 with
      | none => (([] : List S36), 0, 82)
      | some _ => proV neg ((s.drop 3).take (i - 3) ++ (cutL 125 v).1) (((i - 3 + (cutL 125 v).1.length : Nat) : Int) + 4))
  | [], i, h, h3, hi => by
    have : s.length ≤ i := List.drop_eq_nil_iff.1 h
    refine Ev.step (fun k => ?_) (Ev.now _)
    rw [burinref07_Set.l0, sz, if_neg (by omega), if_pos (by omega)]
    rfl
  | c :: t, i, h, h3, hi => by
    obtain ⟨hbt, hlt, ht⟩ := bt_drop h
    unfold cutL
    by_cases e : c = 125
    · subst e
      simp only [if_true, List.append_nil, List.length_nil, Nat.add_zero]
      refine Ev.step (fun k => ?_) (rsetj_ev s d neg hb (by omega) hd ((s.drop 3).take (i - 3)) (((i - 3 : Nat) : Int) + 4))
      rw [burinref07_Set.l0, sz, if_pos (by omega), if_pos (by omega), hbt, if_pos (by rfl), if_neg (by omega), if_pos (by omega), if_pos (by omega), Int.toNat_natCast, ex_list, wr (x := (i : Int) + 1) (y := ((i - 3 : Nat) : Int) + 4) (by omega) (by omega) (by omega)]
    · simp only [if_neg e]
      have ih := rset_l0 s d neg hb h1 hs hd t (i + 1) ht (by omega) (by omega)
      have hidx : (s.drop 3).take (i + 1 - 3) = (s.drop 3).take (i - 3) ++ [c] := by
        rw [show i + 1 - 3 = (i - 3) + 1 by omega, List.take_succ_eq_append_getElem (by rw [List.length_drop]; omega)]
        congr 2
        rw [List.getElem_drop]
        have : s.drop i = s[i] :: s.drop (i + 1) := List.drop_eq_getElem_cons hlt
        rw [h] at this
        have h2 := (List.cons.inj this).1
        simp only [show 3 + (i - 3) = i by omega]
        exact h2.symm
      rw [hidx] at ih
      have hne : ¬ (c.toNat : Int) = 125 := fun hh => e (u8_eq (n := 125) hh (by omega))
      refine Ev.step (f := fun k => burinref07_Set.l0 k ⟨⟨s⟩⟩ ((i + 1 : Nat) : Int)) (fun k => ?_) ?_
      · rw [burinref07_Set.l0, sz, if_pos (by omega), if_pos (by omega), hbt, if_neg hne, wr (x := (i : Int) + 1) (y := ((i + 1 : Nat) : Int)) (by omega) (by omega) (by omega)]
      · cases hq : (cutL 125 t).2 with
        | none => rw [hq] at ih; exact ih
        | some x =>
          rw [hq] at ih
          dsimp only at ih ⊢
          rw [List.append_assoc, List.singleton_append] at ih
          rw [show ((i + 1 - 3 + (cutL 125 t).1.length : Nat) : Int) + 4 = ((i - 3 + (c :: (cutL 125 t).1).length : Nat) : Int) + 4 by rw [List.length_cons]; omega] at ih
          exact ih
/-- The document's answer for an escape of a set. -/
theorem rset_ev (s : List UInt8) (hs : s.length ≤ 1000000) : Ev (fun k => burinref07_Set.f k ⟨⟨s⟩⟩) (setV s) := by
  have z := sz s
  have bad : ∀ k, burinref07_Set.j0 (k + 1) ⟨⟨s⟩⟩ true = some ([], 0, 3) := fun k => by rw [burinref07_Set.j0, if_pos rfl]
  match s, z, hs, bad with
  | [], z, _, bad => exact Ev.congr (f := fun k => burinref07_Set.j0 k ⟨⟨[]⟩⟩ true) (fun k => by unfold burinref07_Set.f; rw [z]; rfl) (Ev.step bad (Ev.now _))
  | c :: t, z, hs, bad =>
    have hb : bt ⟨⟨c :: t⟩⟩ 0 = (c.toNat : Int) := (bt_drop (l := c :: t) (i := 0) rfl).1
    have h00 : ∀ k, burinref07_Set.f k ⟨⟨c :: t⟩⟩ = burinref07_Set.j0 k ⟨⟨c :: t⟩⟩ ((c.toNat : Int) != 92) := fun k => by
      unfold burinref07_Set.f
      rw [z, if_neg (by simp only [List.length_cons]; omega), if_pos (by simp only [List.length_cons]; omega), hb]
    refine Ev.congr h00 ?_
    by_cases e : (c.toNat : Int) = 92
    · rw [show ((c.toNat : Int) != 92) = false by rw [e]; rfl]
      cases t with
      | nil => exact Ev.step (f := fun _ => some ([], 0, 5)) (fun k => by rw [burinref07_Set.j0, if_neg (by decide), z, if_pos (by simp)]) (by simp only [setV]; rw [if_pos e]; exact Ev.now _)
      | cons d u =>
        have hd := u8_in d
        have hb1 : bt ⟨⟨c :: d :: u⟩⟩ 1 = (d.toNat : Int) := (bt_drop (l := c :: d :: u) (i := 1) rfl).1
        have hl : 1 < ((c :: d :: u).length : Int) := by simp only [List.length_cons]; omega
        obtain ⟨hlet, hiff⟩ := rlet_ev hd.1 hd.2
        have h1 : ∀ k, burinref07_Set.j0 (k + 1) ⟨⟨c :: d :: u⟩⟩ false = burinref07_Set.j1 k ⟨⟨c :: d :: u⟩⟩ (decide ((d.toNat : Int) ≠ 112 ∧ (d.toNat : Int) ≠ 80)) := fun k => by
          rw [burinref07_Set.j0, if_neg (by decide), z, if_neg (by omega), if_pos hl, hb1]
          by_cases g1 : (d.toNat : Int) = 112
          · rw [if_pos g1, g1]; rfl
          rw [if_neg g1]
          congr 1
          rw [Bool.eq_iff_iff]
          simp only [bne_iff_ne, decide_eq_true_eq]
          omega
        simp only [setV]
        rw [if_pos e]
        refine Ev.step h1 ?_
        by_cases a1 : (d.toNat : Int) ≠ 112 ∧ (d.toNat : Int) ≠ 80
        · rw [decide_eq_true a1]
          refine Ev.step (f := fun k => (burinref04_Letter.f k (d.toNat : Int)).bind fun bt => if bt.2 = 0 then some (bt.1, 2, 0) else some ([], 0, 5)) (fun k => by rw [burinref07_Set.j1, if_pos rfl, z, if_pos hl, hb1]) (Ev.bind hlet ?_)
          by_cases g : isLet d.toNat = true
          · rw [if_pos g, hiff.2 g]
            exact ev_const fun k => by rw [if_pos rfl]
          · rw [if_neg g, if_neg (show ¬ ((d.toNat : Int) = 112 ∨ (d.toNat : Int) = 80) by omega)]
            exact ev_const fun k => by rw [if_neg (fun h => g (hiff.1 h))]
        · have a2 : (d.toNat : Int) = 112 ∨ (d.toNat : Int) = 80 := by omega
          rw [decide_eq_false a1, if_neg (show ¬ isLet d.toNat = true from by unfold isLet; rw [decide_eq_true_eq]; omega), if_pos a2]
          have hj := rsetj_ev (c :: d :: u) d _ hb1 (by simp) rfl
          cases u with
          | nil => exact Ev.step (f := fun _ => some ([], 0, 82)) (fun k => by rw [burinref07_Set.j1, if_neg (by decide), z, if_pos (by rfl)]) (Ev.now _)
          | cons f v =>
            have hb2 : bt ⟨⟨c :: d :: f :: v⟩⟩ 2 = (f.toNat : Int) := (bt_drop (l := c :: d :: f :: v) (i := 2) rfl).1
            have hl3 : ((c :: d :: f :: v).length : Int) = v.length + 3 := by simp only [List.length_cons]; omega
            have h0 : ∀ k, burinref07_Set.j1 (k + 1) ⟨⟨c :: d :: f :: v⟩⟩ false = if (f.toNat : Int) = 123 then burinref07_Set.l0 k ⟨⟨c :: d :: f :: v⟩⟩ 3 else if letB f.toNat = true then burinref07_Set.j3 k ⟨⟨c :: d :: f :: v⟩⟩ ((ByteArray.mk ⟨c :: d :: f :: v⟩).extract 2 3) 3 else some ([], 0, 70) := fun k => by
              rw [burinref07_Set.j1, if_neg (by decide), z, if_neg (by omega), if_pos (by omega), if_pos (by omega), if_pos (by omega), hb2, rletter_f]
              rfl
            refine Ev.step h0 ?_
            simp only [propV]
            by_cases g1 : (f.toNat : Int) = 123
            · simp only [if_pos g1]
              have hl0 := rset_l0 (c :: d :: f :: v) d _ hb1 (by simp) hs rfl v 3 rfl (by omega) (by simp)
              simp only [Nat.sub_self, List.take_zero, List.nil_append, Nat.zero_add] at hl0
              exact hl0
            · simp only [if_neg g1]
              by_cases g2 : letB f.toNat = true
              · simp only [if_pos g2]
                rw [ex_list]
                exact hj [f] 3
              · simp only [if_neg g2]
                exact ev_const fun _ => rfl
    · rw [show ((c.toNat : Int) != 92) = true from bne_iff_ne.mpr e]
      cases t with
      | nil => simp only [setV]; rw [if_neg e]; exact Ev.step bad (Ev.now _)
      | cons d u => simp only [setV]; rw [if_neg e]; exact Ev.step bad (Ev.now _)
set_option maxRecDepth 100000 in
theorem works_ev : Ev burinlaw07_works.f true := Ev.of burinlaw07_works.mono (k := 40) (by decide +kernel)
theorem BracketEscapes : burinlaw07_BracketEscapes.Pure := by
  intro s hs
  obtain ⟨Kw, hw⟩ := works_ev
  by_cases hl : (s.size : Int) > 300
  · refine ⟨Kw, ?_⟩
    unfold burinlaw07_BracketEscapes.f
    rw [if_pos hl, show burinlaw07_works.f Kw = _ from hw Kw (Nat.le_refl _)]
    rfl
  · obtain ⟨⟨l⟩⟩ := s
    have z := sz l
    have hl2 : l.length ≤ 1000000 := by rw [z] at hl; omega
    obtain ⟨K1, h1⟩ := num_ev l hl2
    obtain ⟨K2, h2⟩ := rnum_ev l hl2
    obtain ⟨K3, h3⟩ := set_ev l hl2
    obtain ⟨K4, h4⟩ := rset_ev l hl2
    obtain ⟨K5, h5⟩ := same_ev (setV l).1 (by have := set_small l; omega)
    let m := Kw + K1 + K2 + K3 + K4 + K5
    have q0 : burinlaw07_works.f m = _ := hw m (by omega)
    have q1 : bracket_Number.f m _ = _ := h1 m (by omega)
    have q2 : burinref07_Number.f m _ = _ := h2 m (by omega)
    have q3 : bracket_Set.f m _ = _ := h3 m (by omega)
    have q4 : burinref07_Set.f m _ = _ := h4 m (by omega)
    have q5 : burinbook_SameRanges.f m _ _ = _ := h5 m (by omega)
    refine ⟨m, ?_⟩
    unfold burinlaw07_BracketEscapes.f
    rw [if_neg hl, q1, Option.bind_some, q2, Option.bind_some, q3, Option.bind_some, q4, Option.bind_some, if_pos rfl, if_pos rfl, if_pos rfl, q5, Option.bind_some, if_pos rfl, if_pos rfl, if_pos rfl, q0]
    rfl
end Go.Proofs.YtheheijhijeljaaGreatDoor.Pure

