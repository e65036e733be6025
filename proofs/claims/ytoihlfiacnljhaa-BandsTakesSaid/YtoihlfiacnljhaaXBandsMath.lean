import Derived.Test.YtoihlfiacnljhaaXBandsCut
namespace Go.Proofs.YtoihlfiacnljhaaX
open Go.RowKit Go.Proofs.YtoihlfiacnljhaaW.PrintWords Go.Proofs.YtoihlfiacnljhaaW.PrintLast Go.Proofs.YtoihlfiacnljhaaW.PrintMore
set_option linter.unusedVariables false
set_option linter.unusedSimpArgs false
def byteI (s : ByteArray) (i : Nat) : Int := if h : i < s.size then (s[i]'h).toNat else 0
theorem byteI_in (s : ByteArray) (i : Nat) : 0 ≤ byteI s i ∧ byteI s i ≤ 255 := by
  unfold byteI
  split
  · rename_i h
    have := (s[i]'h).toNat_lt
    omega
  · omega
/-- Are all ranges from the k-th on met? -/
def okFrom (s : ByteArray) : Nat → List (Int × Int) → Bool
  | _, [] => true
  | k, x :: t => decide (x.1 ≤ byteI s k) && (decide (byteI s k ≤ x.2) && okFrom s (k + 1) t)
def takesF (s : ByteArray) (seq : List (Int × Int)) : Bool := decide (0 < seq.length) && (decide (seq.length ≤ s.size) && okFrom s 0 seq)
def longF (s : ByteArray) : List (List (Int × Int)) → Int
  | [] => 0
  | q :: t => if takesF s q then q.length else longF s t
def bytesL (s : ByteArray) (n : Nat) : List Int := (List.range n).map (byteI s)
def Starts (s : ByteArray) (n : Nat) (r : Int) : Prop := n ≤ s.size ∧ bytesL s n = encN n r
theorem enc1 (r : Int) : encN 1 r = [r] := by simp [encN, leadV]
theorem enc2 (r : Int) : encN 2 r = [192 + r / 64, 128 + r % 64] := by simp [encN, leadV, List.range_succ]
theorem enc3 (r : Int) : encN 3 r = [224 + r / 4096, 128 + r / 64 % 64, 128 + r % 64] := by simp [encN, leadV, List.range_succ]
theorem enc4 (r : Int) : encN 4 r = [240 + r / 262144, 128 + r / 4096 % 64, 128 + r / 64 % 64, 128 + r % 64] := by simp [encN, leadV, List.range_succ]
theorem bytes1 (s : ByteArray) : bytesL s 1 = [byteI s 0] := by simp [bytesL]
theorem bytes2 (s : ByteArray) : bytesL s 2 = [byteI s 0, byteI s 1] := by simp [bytesL, List.range_succ]
theorem bytes3 (s : ByteArray) : bytesL s 3 = [byteI s 0, byteI s 1, byteI s 2] := by simp [bytesL, List.range_succ]
theorem bytes4 (s : ByteArray) : bytesL s 4 = [byteI s 0, byteI s 1, byteI s 2, byteI s 3] := by simp [bytesL, List.range_succ]
theorem partG_one {lo hi : Int} (h0 : 0 ≤ lo) (h1 : lo ≤ hi) : ∀ ps : List Int, (∀ p ∈ ps, p = 64 ∨ p = 4096 ∨ p = 262144) → partG lo hi ps = ((lo, hi), (lo, hi)) → ∀ p ∈ ps, lo - lo % p = hi - hi % p ∨ (lo % p = 0 ∧ hi % p = p - 1)
  | [], _, _ => fun p hp => by simp at hp
  | p :: ps, hp, h => by
    have ih := partG_one h0 h1 ps (fun q hq => hp q (by simp [hq]))
    unfold partG at h
    intro q hq
    rw [List.mem_cons] at hq
    by_cases c1 : lo - lo % p = hi - hi % p
    · rw [if_pos c1] at h
      rcases hq with rfl | hq
      · exact .inl c1
      · exact ih h q hq
    · rw [if_neg c1] at h
      by_cases c2 : lo % p ≠ 0
      · rw [if_pos c2] at h
        simp only [Prod.mk.injEq] at h
        rcases hp p (by simp) with rfl | rfl | rfl <;> omega
      · rw [if_neg c2] at h
        by_cases c3 : hi % p ≠ p - 1
        · rw [if_pos c3] at h
          simp only [Prod.mk.injEq] at h
          rcases hp p (by simp) with rfl | rfl | rfl <;> omega
        · rw [if_neg c3] at h
          rcases hq with rfl | hq
          · exact .inr ⟨by omega, by omega⟩
          · exact ih h q hq
theorem ok_one (s : ByteArray) {lo hi : Int} (hw : OneW 1 lo hi) : okFrom s 0 (seqOf 1 lo hi) = true ↔ ∃ r, lo ≤ r ∧ r ≤ hi ∧ bytesL s 1 = encN 1 r := by
  simp only [seqOf, enc1, bytes1, List.zip_cons_cons, List.zip_nil_right, okFrom, Bool.and_true, Bool.and_eq_true, decide_eq_true_eq, List.cons.injEq, and_true]
  constructor
  · rintro ⟨a, b⟩
    exact ⟨_, a, b, rfl⟩
  · rintro ⟨r, a, b, rfl⟩
    exact ⟨a, b⟩
theorem ok_two (s : ByteArray) {lo hi : Int} (hw : OneW 2 lo hi) (h : lo - lo % 64 = hi - hi % 64 ∨ (lo % 64 = 0 ∧ hi % 64 = 63)) : okFrom s 0 (seqOf 2 lo hi) = true ↔ ∃ r, lo ≤ r ∧ r ≤ hi ∧ bytesL s 2 = encN 2 r := by
  simp only [seqOf, enc2, bytes2, List.zip_cons_cons, List.zip_nil_right, okFrom, Bool.and_true, Bool.and_eq_true, decide_eq_true_eq, List.cons.injEq, and_true]
  generalize byteI s 0 = a
  generalize byteI s 1 = b
  have := hw.le
  constructor
  · rintro ⟨a1, a2, b1, b2⟩
    exact ⟨(a - 192) * 64 + (b - 128), by omega, by omega, by omega, by omega⟩
  · rintro ⟨r, h1, h2, rfl, rfl⟩
    omega
theorem ok_three (s : ByteArray) {lo hi : Int} (hw : OneW 3 lo hi) (h : lo - lo % 64 = hi - hi % 64 ∨ (lo % 64 = 0 ∧ hi % 64 = 63)) (h' : lo - lo % 4096 = hi - hi % 4096 ∨ (lo % 4096 = 0 ∧ hi % 4096 = 4095)) : okFrom s 0 (seqOf 3 lo hi) = true ↔ ∃ r, lo ≤ r ∧ r ≤ hi ∧ bytesL s 3 = encN 3 r := by
  simp only [seqOf, enc3, bytes3, List.zip_cons_cons, List.zip_nil_right, okFrom, Bool.and_true, Bool.and_eq_true, decide_eq_true_eq, List.cons.injEq, and_true]
  generalize byteI s 0 = a
  generalize byteI s 1 = b
  generalize byteI s 2 = c
  have := hw.le
  constructor
  · rintro ⟨a1, a2, b1, b2, c1, c2⟩
    exact ⟨(a - 224) * 4096 + (b - 128) * 64 + (c - 128), by omega, by omega, by omega, by omega, by omega⟩
  · rintro ⟨r, h1, h2, rfl, rfl, rfl⟩
    omega
theorem ok_four (s : ByteArray) {lo hi : Int} (hw : OneW 4 lo hi) (h : lo - lo % 64 = hi - hi % 64 ∨ (lo % 64 = 0 ∧ hi % 64 = 63)) (h' : lo - lo % 4096 = hi - hi % 4096 ∨ (lo % 4096 = 0 ∧ hi % 4096 = 4095)) (h'' : lo - lo % 262144 = hi - hi % 262144 ∨ (lo % 262144 = 0 ∧ hi % 262144 = 262143)) : okFrom s 0 (seqOf 4 lo hi) = true ↔ ∃ r, lo ≤ r ∧ r ≤ hi ∧ bytesL s 4 = encN 4 r := by
  simp only [seqOf, enc4, bytes4, List.zip_cons_cons, List.zip_nil_right, okFrom, Bool.and_true, Bool.and_eq_true, decide_eq_true_eq, List.cons.injEq, and_true]
  generalize byteI s 0 = a
  generalize byteI s 1 = b
  generalize byteI s 2 = c
  generalize byteI s 3 = d
  have := hw.le
  constructor
  · rintro ⟨a1, a2, b1, b2, c1, c2, d1, d2⟩
    exact ⟨(a - 240) * 262144 + (b - 128) * 4096 + (c - 128) * 64 + (d - 128), by omega, by omega, by omega, by omega, by omega, by omega⟩
  · rintro ⟨r, h1, h2, rfl, rfl, rfl, rfl⟩
    omega
def seq3 (p : Nat × Int × Int) : List (Int × Int) := seqOf p.1 p.2.1 p.2.2
structure Piece (p : Nat × Int × Int) : Prop where
  w : OneW p.1 p.2.1 p.2.2
  one : partG p.2.1 p.2.2 (psOf p.1) = ((p.2.1, p.2.2), (p.2.1, p.2.2))
theorem Piece.takes {p : Nat × Int × Int} (h : Piece p) (s : ByteArray) : takesF s (seq3 p) = true ↔ ∃ r, p.2.1 ≤ r ∧ r ≤ p.2.2 ∧ Starts s p.1 r := by
  obtain ⟨n, lo, hi⟩ := p
  have hw : OneW n lo hi := h.w
  have ho : partG lo hi (psOf n) = ((lo, hi), (lo, hi)) := h.one
  have hp := partG_one hw.inr.1 hw.le _ (psOf_in n) ho
  have hk : okFrom s 0 (seqOf n lo hi) = true ↔ ∃ r, lo ≤ r ∧ r ≤ hi ∧ bytesL s n = encN n r := by
    have hc : n = 1 ∨ n = 2 ∨ n = 3 ∨ n = 4 := by have := hw.n1; omega
    rcases hc with rfl | rfl | rfl | rfl
    · exact ok_one s hw
    · exact ok_two s hw (hp 64 (by simp [psOf]))
    · exact ok_three s hw (hp 64 (by simp [psOf])) (hp 4096 (by simp [psOf]))
    · exact ok_four s hw (hp 64 (by simp [psOf])) (hp 4096 (by simp [psOf])) (hp 262144 (by simp [psOf]))
  have hl := seqOf_len hw.n1.1 lo hi
  unfold takesF seq3
  simp only [Bool.and_eq_true, decide_eq_true_eq, hl, hk]
  constructor
  · rintro ⟨_, h2, r, h3, h4, h5⟩
    exact ⟨r, h3, h4, h2, h5⟩
  · rintro ⟨r, h3, h4, h2, h5⟩
    exact ⟨by have := hw.n1; omega, h2, r, h3, h4, h5⟩
theorem widthF_eq {n : Nat} {r : Int} (h : widthF r = n) (hn : 1 ≤ n) : (n = 1 ∧ 0 ≤ r ∧ r ≤ 127) ∨ (n = 2 ∧ 128 ≤ r ∧ r ≤ 2047) ∨ (n = 3 ∧ 2048 ≤ r ∧ r ≤ 65535 ∧ ¬ (55296 ≤ r ∧ r ≤ 57343)) ∨ (n = 4 ∧ 65536 ≤ r ∧ r ≤ 1114111) := by
  unfold widthF at h
  repeat' split at h
  all_goals omega
set_option maxHeartbeats 1000000 in
theorem Starts.unique {s : ByteArray} {n m : Nat} {r q : Int} (h : Starts s n r) (hr : widthF r = n) (hn : 1 ≤ n) (h' : Starts s m q) (hq : widthF q = m) (hm : 1 ≤ m) : n = m ∧ r = q := by
  obtain ⟨_, h⟩ := h
  obtain ⟨_, h'⟩ := h'
  rcases widthF_eq hr hn with ⟨rfl, h0⟩ | ⟨rfl, h0⟩ | ⟨rfl, h0⟩ | ⟨rfl, h0⟩ <;> rcases widthF_eq hq hm with ⟨rfl, h1⟩ | ⟨rfl, h1⟩ | ⟨rfl, h1⟩ | ⟨rfl, h1⟩ <;>
  · simp only [enc1, enc2, enc3, enc4, bytes1, bytes2, bytes3, bytes4, List.cons.injEq, and_true] at h h'
    generalize byteI s 0 = a at h h'
    generalize byteI s 1 = b at h h'
    generalize byteI s 2 = c at h h'
    generalize byteI s 3 = d at h h'
    omega
/-- Sequences of pieces, one behind the other, that hold all runes of a range. -/
structure Pieces (P : List (Nat × Int × Int)) (lo hi : Int) : Prop where
  all : ∀ p ∈ P, Piece p ∧ lo ≤ p.2.1 ∧ p.2.2 ≤ hi
  apart : P.Pairwise (fun p q => p.2.2 < q.2.1)
  cover : ∀ r, lo ≤ r → r ≤ hi → widthF r ≠ 0 → ∃ p ∈ P, p.2.1 ≤ r ∧ r ≤ p.2.2
theorem Pieces.append {P Q : List (Nat × Int × Int)} {lo m m' hi : Int} (h : Pieces P lo m) (h' : Pieces Q m' hi) (hm : m < m') (h1 : m ≤ hi) (h2 : lo ≤ m') (hg : ∀ r, m < r → r < m' → widthF r = 0) : Pieces (P ++ Q) lo hi := by
  refine ⟨fun p hp => ?_, List.pairwise_append.2 ⟨h.apart, h'.apart, fun p hp q hq => ?_⟩, fun r hr1 hr2 hw => ?_⟩
  · rcases List.mem_append.1 hp with hp | hp
    · have := h.all p hp
      exact ⟨this.1, this.2.1, by omega⟩
    · have := h'.all p hp
      exact ⟨this.1, by omega, this.2.2⟩
  · have := h.all p hp
    have := h'.all q hq
    omega
  · by_cases c1 : r ≤ m
    · obtain ⟨p, hp, h3⟩ := h.cover r hr1 c1 hw
      exact ⟨p, by simp [hp], h3⟩
    · by_cases c2 : m' ≤ r
      · obtain ⟨p, hp, h3⟩ := h'.cover r c2 hr2 hw
        exact ⟨p, by simp [hp], h3⟩
      · exact absurd (hg r (by omega) (by omega)) hw
theorem Pieces.wide {P : List (Nat × Int × Int)} {lo hi lo' hi' : Int} (h : Pieces P lo hi) (h1 : lo' ≤ lo) (h2 : hi ≤ hi') (hg : ∀ r, lo' ≤ r → r ≤ hi' → ¬ (lo ≤ r ∧ r ≤ hi) → widthF r = 0) : Pieces P lo' hi' :=
  ⟨fun p hp => ⟨(h.all p hp).1, by have := (h.all p hp).2.1; omega, by have := (h.all p hp).2.2; omega⟩, h.apart, fun r h3 h4 hw => if hc : lo ≤ r ∧ r ≤ hi then h.cover r hc.1 hc.2 hw else absurd (hg r h3 h4 hc) hw⟩
theorem partL_pieces (n : Nat) : ∀ (d : Nat) (lo hi : Int), (hi - lo).toNat ≤ d → OneW n lo hi → ∃ P, partL n lo hi = P.map seq3 ∧ Pieces P lo hi
  | d, lo, hi, hd, hw => by
    rcases partG_cases hw.inr.1 hw.le (psOf n) (psOf_in n) with h | ⟨m, h1, h2, h⟩
    · refine ⟨[(n, lo, hi)], by rw [partL_one h]; rfl, ?_, by simp, fun r h1 h2 _ => ⟨(n, lo, hi), by simp, h1, h2⟩⟩
      intro p hp
      obtain rfl : p = (n, lo, hi) := by simpa using hp
      exact ⟨⟨hw, h⟩, Int.le_refl _, Int.le_refl _⟩
    · obtain ⟨P, e1, p1⟩ := partL_pieces n (d - 1) lo m (by omega) (hw.sub (Int.le_refl _) h1 (by omega))
      obtain ⟨Q, e2, p2⟩ := partL_pieces n (d - 1) (m + 1) hi (by omega) (hw.sub (by omega) (by omega) (Int.le_refl _))
      exact ⟨P ++ Q, by rw [partL_two h1 h2 h, e1, e2, List.map_append], p1.append p2 (by omega) (by omega) (by omega) (fun r _ _ => by omega)⟩
termination_by d => d
decreasing_by all_goals omega
/-- Runes of one width, one behind the other. -/
def wds : List (Nat × Int × Int) := [(1, 0, 127), (2, 128, 2047), (3, 2048, 55295), (3, 57344, 65535), (4, 65536, 1114111)]
def cutW (lo hi : Int) (x : Nat × Int × Int) : List (List (Int × Int)) := if max lo x.2.1 ≤ min hi x.2.2 then partL x.1 (max lo x.2.1) (min hi x.2.2) else []
/-- A range's sequences. -/
def splitL (lo hi : Int) : List (List (Int × Int)) := wds.flatMap (cutW lo hi)
theorem oneW_cut (lo hi : Int) (k : Nat) (hk : k < 5) (h : max lo (wds[k]'hk).2.1 ≤ min hi (wds[k]'hk).2.2) : OneW (wds[k]'hk).1 (max lo (wds[k]'hk).2.1) (min hi (wds[k]'hk).2.2) := by
  match k, hk, h with
  | 0, _, h => exact ⟨by simp [wds], h, by simp [wds] at h ⊢; omega, fun _ => by simp [wds]; omega, fun e => by simp [wds] at e, fun e => by simp [wds] at e, fun e => by simp [wds] at e⟩
  | 1, _, h => exact ⟨by simp [wds], h, by simp [wds] at h ⊢; omega, fun e => by simp [wds] at e, fun _ => by simp [wds]; omega, fun e => by simp [wds] at e, fun e => by simp [wds] at e⟩
  | 2, _, h => exact ⟨by simp [wds], h, by simp [wds] at h ⊢; omega, fun e => by simp [wds] at e, fun e => by simp [wds] at e, fun _ => by simp [wds]; omega, fun e => by simp [wds] at e⟩
  | 3, _, h => exact ⟨by simp [wds], h, by simp [wds] at h ⊢; omega, fun e => by simp [wds] at e, fun e => by simp [wds] at e, fun _ => by simp [wds]; omega, fun e => by simp [wds] at e⟩
  | 4, _, h => exact ⟨by simp [wds], h, by simp [wds] at h ⊢; omega, fun e => by simp [wds] at e, fun e => by simp [wds] at e, fun e => by simp [wds] at e, fun _ => by simp [wds]; omega⟩
structure PiecesIn (P : List (Nat × Int × Int)) (lo hi A B : Int) : Prop where
  all : ∀ p ∈ P, Piece p ∧ lo ≤ p.2.1 ∧ p.2.2 ≤ hi ∧ A ≤ p.2.1 ∧ p.2.2 ≤ B
  apart : P.Pairwise (fun p q => p.2.2 < q.2.1)
  cover : ∀ r, lo ≤ r → r ≤ hi → A ≤ r → r ≤ B → widthF r ≠ 0 → ∃ p ∈ P, p.2.1 ≤ r ∧ r ≤ p.2.2
theorem PiecesIn.append {P Q : List (Nat × Int × Int)} {lo hi A B B' C : Int} (h : PiecesIn P lo hi A B) (h' : PiecesIn Q lo hi B' C) (hm : B < B') (h1 : B ≤ C) (h2 : A ≤ B') (hg : ∀ r, B < r → r < B' → widthF r = 0) : PiecesIn (P ++ Q) lo hi A C := by
  refine ⟨fun p hp => ?_, List.pairwise_append.2 ⟨h.apart, h'.apart, fun p hp q hq => ?_⟩, fun r hr1 hr2 hr3 hr4 hw => ?_⟩
  · rcases List.mem_append.1 hp with hp | hp
    · have := h.all p hp
      exact ⟨this.1, this.2.1, this.2.2.1, by omega, by omega⟩
    · have := h'.all p hp
      exact ⟨this.1, this.2.1, this.2.2.1, by omega, by omega⟩
  · have := h.all p hp
    have := h'.all q hq
    omega
  · by_cases c1 : r ≤ B
    · obtain ⟨p, hp, h3⟩ := h.cover r hr1 hr2 hr3 c1 hw
      exact ⟨p, by simp [hp], h3⟩
    · by_cases c2 : B' ≤ r
      · obtain ⟨p, hp, h3⟩ := h'.cover r hr1 hr2 c2 hr4 hw
        exact ⟨p, by simp [hp], h3⟩
      · exact absurd (hg r (by omega) (by omega)) hw
theorem cut_pieces (lo hi : Int) (k : Nat) (hk : k < 5) : ∃ P, cutW lo hi (wds[k]'hk) = P.map seq3 ∧ PiecesIn P lo hi (wds[k]'hk).2.1 (wds[k]'hk).2.2 := by
  unfold cutW
  have hw := oneW_cut lo hi k hk
  generalize (wds[k]'hk).1 = n at hw
  generalize (wds[k]'hk).2.1 = a at hw
  generalize (wds[k]'hk).2.2 = b at hw
  split
  · rename_i h
    obtain ⟨P, e, p⟩ := partL_pieces n _ _ _ (Nat.le_refl _) (hw h)
    exact ⟨P, e, fun q hq => by have := p.all q hq; exact ⟨this.1, by omega, by omega, by omega, by omega⟩, p.apart, fun r h1 h2 h3 h4 h5 => p.cover r (by omega) (by omega) h5⟩
  · exact ⟨[], rfl, fun q hq => by simp at hq, List.Pairwise.nil, fun r h1 h2 h3 h4 h5 => by omega⟩
theorem splitL_pieces (lo hi : Int) : ∃ P, splitL lo hi = P.map seq3 ∧ Pieces P lo hi := by
  obtain ⟨P0, e0, p0⟩ := cut_pieces lo hi 0 (by decide)
  obtain ⟨P1, e1, p1⟩ := cut_pieces lo hi 1 (by decide)
  obtain ⟨P2, e2, p2⟩ := cut_pieces lo hi 2 (by decide)
  obtain ⟨P3, e3, p3⟩ := cut_pieces lo hi 3 (by decide)
  obtain ⟨P4, e4, p4⟩ := cut_pieces lo hi 4 (by decide)
  have h := ((((p0.append p1 (by simp [wds]) (by simp [wds]) (by simp [wds]) (fun r h1 h2 => by simp [wds] at h1 h2; omega)).append p2 (by simp [wds]) (by simp [wds]) (by simp [wds]) (fun r h1 h2 => by simp [wds] at h1 h2; omega)).append p3 (by simp [wds]) (by simp [wds]) (by simp [wds]) (fun r h1 h2 => by simp [wds] at h1 h2; unfold widthF; rw [if_pos (.inr (.inr (by omega)))])).append p4 (by simp [wds]) (by simp [wds]) (by simp [wds]) (fun r h1 h2 => by simp [wds] at h1 h2; omega))
  refine ⟨_, ?_, fun p hp => ⟨(h.all p hp).1, (h.all p hp).2.1, (h.all p hp).2.2.1⟩, h.apart, fun r h1 h2 hw => h.cover r h1 h2 ?_ ?_ hw⟩
  · unfold splitL
    show List.flatMap (cutW lo hi) [wds[0], wds[1], wds[2], wds[3], wds[4]] = _
    simp only [List.flatMap_cons, List.flatMap_nil, List.map_append, List.append_assoc, List.append_nil]
    exact congr (congrArg HAppend.hAppend e0) (congr (congrArg HAppend.hAppend e1) (congr (congrArg HAppend.hAppend e2) (congr (congrArg HAppend.hAppend e3) e4)))
  · have := (width_in hw).2; simp [wds]; omega
  · have := (width_in hw).2; simp [wds]; omega
end Go.Proofs.YtoihlfiacnljhaaX
