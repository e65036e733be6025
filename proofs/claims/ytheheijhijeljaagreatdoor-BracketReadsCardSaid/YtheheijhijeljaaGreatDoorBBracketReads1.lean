-- Out of the texts that the kit's print and wip/hyb laid for this law: what this proof uses (wip/shake.py).
import Derived.Test.YtheheijhijeljaaGreatDoorBBracketReads0
namespace Go.Proofs.YtheheijhijeljaaGreatDoorX
set_option linter.unusedVariables false
/-! How many numbers a list holds. -/
def cnt (n : Nat) (p : Int → Bool) : Nat := (List.range n).countP (fun i : Nat => p (i : Int))
theorem cp_or_and {α : Type} (p q : α → Bool) : ∀ l : List α, l.countP (fun x => p x || q x) + l.countP (fun x => p x && q x) = l.countP p + l.countP q
 | [] => rfl
 | x :: t => by
  have ih := cp_or_and p q t
  simp only [List.countP_cons]
  cases p x <;> cases q x <;> simp <;> omega
theorem cp_not {α : Type} (p : α → Bool) : ∀ l : List α, l.countP p + l.countP (fun x => !p x) = l.length
 | [] => rfl
 | x :: t => by
  have ih := cp_not p t
  simp only [List.countP_cons, List.length_cons]
  cases p x <;> simp <;> omega
theorem cp_congr {α : Type} {p q : α → Bool} : ∀ {l : List α}, (∀ x ∈ l, p x = q x) → l.countP p = l.countP q
 | [], _ => rfl
 | x :: t, h => by
  simp only [List.countP_cons]
  rw [cp_congr (fun y hy => h y (List.mem_cons_of_mem _ hy)), h x (by simp)]
theorem cnt_or_and (n : Nat) (p q : Int → Bool) : cnt n (fun r => p r || q r) + cnt n (fun r => p r && q r) = cnt n p + cnt n q := cp_or_and (fun i : Nat => p i) (fun i : Nat => q i) _
theorem cnt_not (n : Nat) (p : Int → Bool) : cnt n p + cnt n (fun r => !p r) = n := by
 have := cp_not (fun i : Nat => p i) (List.range n)
 rw [List.length_range] at this
 exact this
theorem cnt_congr {n : Nat} {p q : Int → Bool} (h : ∀ r : Int, 0 ≤ r → r < n → p r = q r) : cnt n p = cnt n q :=
 cp_congr (fun x hx => h x (by omega) (by have := List.mem_range.1 hx; omega))
theorem cnt_le (n : Nat) (p : Int → Bool) : cnt n p ≤ n := by
 have := cnt_not n p
 omega
theorem cnt_none (n : Nat) : cnt n (fun _ => false) = 0 := by
 unfold cnt
 simp
theorem cnt_between (a b : Int) (h0 : 0 ≤ a) (h1 : a ≤ b) : ∀ n : Nat, (cnt n (fun r => decide (a ≤ r) && decide (r ≤ b)) : Int) = if (n : Int) ≤ a then 0 else if (n : Int) ≤ b + 1 then n - a else b - a + 1
 | 0 => by rw [if_pos (by omega)]; rfl
 | n + 1 => by
  have ih := cnt_between a b h0 h1 n
  unfold cnt at ih ⊢
  rw [List.range_succ, List.countP_append]
  have e : ([n].countP (fun i : Nat => decide (a ≤ (i : Int)) && decide ((i : Int) ≤ b)) : Nat) = if a ≤ (n : Int) ∧ (n : Int) ≤ b then 1 else 0 := by
   by_cases x : a ≤ (n : Int) <;> by_cases y : (n : Int) ≤ b <;> simp [x, y]
  rw [e]
  push_cast
  rw [ih]
  split <;> split <;> (try split) <;> (try split) <;> (try split) <;> omega
def sizeL : List (Int × Int) → Int
 | [] => 0
 | x :: t => (x.2 - x.1 + 1) + sizeL t
theorem sizeL_count : ∀ {l : List (Int × Int)}, Nrm l → sizeL l = (cnt 1114112 (inL l) : Int)
 | [], _ => by
  have : cnt 1114112 (inL []) = 0 := cnt_none _
  rw [this]; rfl
 | x :: t, h => by
  have hx := h.inr x (by simp)
  have ih := sizeL_count h.tail
  have e := cnt_or_and 1114112 (fun r => decide (x.1 ≤ r) && decide (r ≤ x.2)) (inL t)
  have z : cnt 1114112 (fun r => (decide (x.1 ≤ r) && decide (r ≤ x.2)) && inL t r) = 0 := by
   rw [cnt_congr (q := fun _ => false) (fun r _ _ => ?_), cnt_none]
   by_cases hi : inL t r = true
   ·have := nrm_head h hi
    rw [decide_eq_false (show ¬ r ≤ x.2 by omega)]
    simp
   ·rw [Bool.not_eq_true] at hi
    rw [hi, Bool.and_false]
  have b := cnt_between x.1 x.2 hx.1 hx.2.1 1114112
  rw [if_neg (by omega)] at b
  have c : cnt 1114112 (inL (x :: t)) = cnt 1114112 (fun r => (decide (x.1 ≤ r) && decide (r ≤ x.2)) || inL t r) := rfl
  rw [c]
  unfold sizeL
  rw [ih]
  split at b <;> omega
theorem size_le {l : List (Int × Int)} (h : Nrm l) : sizeL l ≤ 1114112 := by
 have := cnt_le 1114112 (inL l)
 rw [sizeL_count h]
 omega
end Go.Proofs.YtheheijhijeljaaGreatDoorX
namespace Go.Proofs.YtheheijhijeljaaGreatDoorX
set_option linter.unusedVariables false
/-! How many numbers a list holds. -/
/-! Laws of the lists. -/
end Go.Proofs.YtheheijhijeljaaGreatDoorX
namespace Go.Proofs.YtheheijhijeljaaGreatDoorX
set_option linter.unusedVariables false
/-! The document's way: from edge to edge. -/
def edgeS (at_ next : Int) (x : Int × Int) : Int :=
 let n1 := if x.1 > at_ ∧ x.1 < next then x.1 else next
 if x.2 ≥ at_ ∧ x.2 < 1114111 ∧ x.2 + 1 < n1 then x.2 + 1 else n1
def edgeG (at_ : Int) : Int → List (Int × Int) → Int
 | n, [] => n
 | n, x :: t => edgeG at_ (edgeS at_ n x) t
theorem edgeS_le (at_ n : Int) (x : Int × Int) : edgeS at_ n x ≤ n ∧ (x.1 > at_ → edgeS at_ n x ≤ x.1) ∧ (x.2 ≥ at_ → x.2 < 1114111 → edgeS at_ n x ≤ x.2 + 1) ∧ (at_ < n → at_ < edgeS at_ n x) := by
 simp only [edgeS]
 by_cases c1 : x.1 > at_ ∧ x.1 < n
 ·simp only [if_pos c1]
  by_cases c2 : x.2 ≥ at_ ∧ x.2 < 1114111 ∧ x.2 + 1 < x.1
  ·rw [if_pos c2]; omega
  ·rw [if_neg c2]; omega
 ·simp only [if_neg c1]
  by_cases c2 : x.2 ≥ at_ ∧ x.2 < 1114111 ∧ x.2 + 1 < n
  ·rw [if_pos c2]; omega
  ·rw [if_neg c2]; omega
theorem edgeG_all (at_ : Int) : ∀ (l : List (Int × Int)) (n : Int), edgeG at_ n l ≤ n ∧ (at_ < n → at_ < edgeG at_ n l) ∧ ∀ x ∈ l, (x.1 > at_ → edgeG at_ n l ≤ x.1) ∧ (x.2 ≥ at_ → x.2 < 1114111 → edgeG at_ n l ≤ x.2 + 1)
 | [], n => ⟨Int.le_refl _, fun h => h, fun x hx => by cases hx⟩
 | y :: t, n => by
  obtain ⟨s1, s2, s3, s4⟩ := edgeS_le at_ n y
  obtain ⟨h1, h2, h3⟩ := edgeG_all at_ t (edgeS at_ n y)
  rw [edgeG]
  refine ⟨by omega, fun h => h2 (s4 h), fun x hx => ?_⟩
  rcases List.mem_cons.1 hx with rfl | hx
  ·exact ⟨fun h => by have := s2 h; omega, fun h h' => by have := s3 h h'; omega⟩
  ·exact h3 x hx
def edgeL (l : List (Int × Int)) (at_ : Int) : Int := edgeG at_ 1114112 l
theorem edge_same {l : List (Int × Int)} {at_ r : Int} (h1 : at_ ≤ r) (h2 : r < edgeL l at_) : inL l r = inL l at_ := by
 obtain ⟨e1, e2, e3⟩ := edgeG_all at_ l 1114112
 change edgeL l at_ ≤ _ at e1
 rw [Bool.eq_iff_iff, inL_iff, inL_iff]
 constructor
 ·rintro ⟨x, hx, a, b⟩
  obtain ⟨z1, z2⟩ := e3 x hx
  change _ → edgeL l at_ ≤ _ at z1
  refine ⟨x, hx, ?_, by omega⟩
  by_cases hc : x.1 > at_
  ·have := z1 hc
   omega
  ·omega
 ·rintro ⟨x, hx, a, b⟩
  obtain ⟨z1, z2⟩ := e3 x hx
  change _ → _ → edgeL l at_ ≤ _ at z2
  refine ⟨x, hx, by omega, ?_⟩
  by_cases hc : x.2 < 1114111
  ·have := z2 b hc
   omega
  ·omega
theorem edge_in (l : List (Int × Int)) {at_ : Int} (h : at_ ≤ 1114111) : at_ < edgeL l at_ ∧ edgeL l at_ ≤ 1114112 := by
 obtain ⟨e1, e2, _⟩ := edgeG_all at_ l 1114112
 exact ⟨e2 (by omega), e1⟩
theorem edge_has {l : List (Int × Int)} {at_ r : Int} (h0 : 0 ≤ at_) (h1 : at_ ≤ r) (h2 : r < edgeL l at_) : hasL l r = hasL l at_ := by
 obtain ⟨e1, _, _⟩ := edgeG_all at_ l 1114112
 change edgeL l at_ ≤ _ at e1
 unfold hasL
 rw [edge_same h1 h2, decide_eq_true (show 0 ≤ r by omega), decide_eq_true (show r ≤ 1114111 by omega), decide_eq_true h0, decide_eq_true (show at_ ≤ 1114111 by omega)]
theorem nrm_len {l : List (Int × Int)} (h : Nrm l) : l.length ≤ 1114112 := by
 have key : ∀ {l : List (Int × Int)}, (∀ x ∈ l, x.1 ≤ x.2) → (l.length : Int) ≤ sizeL l := by
  intro l
  induction l with
  | nil => intro _; simp [sizeL]
  | cons x t ih =>
   intro h
   have := ih (fun y hy => h y (List.mem_cons_of_mem _ hy))
   have := h x (by simp)
   simp only [List.length_cons, sizeL]
   omega
 have h1 := key (fun x hx => (h.inr x hx).2.1)
 have h2 := size_le h
 omega
/-- What lies in the list up to a place. -/
structure Upto (G : Int → Bool) (at_ : Int) (p : List (Int × Int)) : Prop where
 nrm : Nrm p
 lt : ∀ x ∈ p, x.2 < at_
 mem : ∀ r, inL p r = (decide (0 ≤ r) && (decide (r < at_) && G r))
theorem Upto.start (G : Int → Bool) : Upto G 0 [] := by
 refine ⟨Nrm.nil, fun x hx => (by cases hx), fun r => ?_⟩
 rw [inL_nil]
 by_cases h : 0 ≤ r
 ·rw [decide_eq_false (show ¬ r < 0 by omega)]; simp
 ·rw [decide_eq_false h]; simp
theorem Upto.skip {G : Int → Bool} {at_ next : Int} {p : List (Int × Int)} (h : Upto G at_ p) (h1 : at_ < next) (hG : ∀ r, at_ ≤ r → r < next → G r = false) : Upto G next p := by
 refine ⟨h.nrm, fun x hx => by have := h.lt x hx; omega, fun r => ?_⟩
 rw [h.mem r]
 by_cases c : r < at_
 ·rw [decide_eq_true c, decide_eq_true (show r < next by omega)]
 ·by_cases c' : r < next
  ·rw [hG r (by omega) c']; simp
  ·rw [decide_eq_false c, decide_eq_false c']
theorem pair_in (x : Int × Int) (r : Int) : inL [x] r = (decide (x.1 ≤ r) && decide (r ≤ x.2)) := by rw [inL_cons, inL_nil, Bool.or_false]
theorem Upto.more {G : Int → Bool} {at_ next : Int} {p : List (Int × Int)} (h : Upto G at_ p) (h0 : 0 ≤ at_) (h1 : at_ < next) (h2 : next ≤ 1114112) (hG : ∀ r, at_ ≤ r → r < next → G r = true) (hp : ∀ x ∈ p, x.2 + 1 ≠ at_) : Upto G next (p ++ [(at_, next - 1)]) := by
 refine ⟨⟨fun x hx => ?_, List.pairwise_append.2 ⟨h.nrm.apart, by simp, fun x hx y hy => ?_⟩⟩, fun x hx => ?_, fun r => ?_⟩
 ·rcases List.mem_append.1 hx with hx | hx
  ·exact h.nrm.inr x hx
  ·simp only [List.mem_singleton] at hx; subst hx; simp only; omega
 ·simp only [List.mem_singleton] at hy
  subst hy
  have := h.lt x hx
  have := hp x hx
  simp only
  omega
 ·rcases List.mem_append.1 hx with hx | hx
  ·have := h.lt x hx; omega
  ·simp only [List.mem_singleton] at hx; subst hx; simp only; omega
 ·rw [inL_append, h.mem r, pair_in]
  simp only
  by_cases c : r < at_
  ·rw [decide_eq_true c, decide_eq_true (show r < next by omega), decide_eq_false (show ¬ at_ ≤ r by omega)]; simp
  ·by_cases c' : r < next
   ·rw [hG r (by omega) c', decide_eq_false c, decide_eq_true c', decide_eq_true (show at_ ≤ r by omega), decide_eq_true (show r ≤ next - 1 by omega), decide_eq_true (show 0 ≤ r by omega)]; rfl
   ·rw [decide_eq_false c, decide_eq_false c', decide_eq_false (show ¬ r ≤ next - 1 by omega)]; simp
theorem Upto.join {G : Int → Bool} {at_ next : Int} {p : List (Int × Int)} {c : Int × Int} (h : Upto G at_ (p ++ [c])) (h0 : 0 ≤ at_) (h1 : at_ < next) (h2 : next ≤ 1114112) (hG : ∀ r, at_ ≤ r → r < next → G r = true) (hc : c.2 + 1 = at_) : Upto G next (p ++ [(c.1, next - 1)]) := by
 obtain ⟨pw1, pw2, pw3⟩ := List.pairwise_append.1 h.nrm.apart
 have hci := h.nrm.inr c (by simp)
 refine ⟨⟨fun x hx => ?_, List.pairwise_append.2 ⟨pw1, by simp, fun x hx y hy => ?_⟩⟩, fun x hx => ?_, fun r => ?_⟩
 ·rcases List.mem_append.1 hx with hx | hx
  ·exact h.nrm.inr x (List.mem_append_left _ hx)
  ·simp only [List.mem_singleton] at hx; subst hx; simp only; omega
 ·simp only [List.mem_singleton] at hy
  subst hy
  exact pw3 x hx c (by simp)
 ·rcases List.mem_append.1 hx with hx | hx
  ·have := h.lt x (List.mem_append_left _ hx); omega
  ·simp only [List.mem_singleton] at hx; subst hx; simp only; omega
 ·have hm := h.mem r
  rw [inL_append, pair_in] at hm ⊢
  simp only
  by_cases k : r < at_
  ·rw [decide_eq_true k] at hm
   rw [decide_eq_true (show r < next by omega), ← hm, decide_eq_true (show r ≤ next - 1 by omega), decide_eq_true (show r ≤ c.2 by omega)]
  ·rw [decide_eq_false k, decide_eq_false (show ¬ r ≤ c.2 by omega)] at hm
   have hn : inL p r = false := by
    revert hm
    cases inL p r <;> simp
   rw [hn]
   by_cases k' : r < next
   ·rw [hG r (by omega) k', decide_eq_true k', decide_eq_true (show c.1 ≤ r by omega), decide_eq_true (show r ≤ next - 1 by omega), decide_eq_true (show 0 ≤ r by omega)]; rfl
   ·rw [decide_eq_false k', decide_eq_false (show ¬ r ≤ next - 1 by omega)]; simp
theorem Upto.last {G : Int → Bool} {p : List (Int × Int)} (h : Upto G 1114112 p) (r : Int) : inL p r = (decide (0 ≤ r) && (decide (r ≤ 1114111) && G r)) := by
 rw [h.mem r]
 congr 2
 rw [decide_eq_decide]
 omega
end Go.Proofs.YtheheijhijeljaaGreatDoorX
namespace Go.Proofs.YtheheijhijeljaaGreatDoorX
open Go.RowKit Go.Proofs.YtheheijhijeljaaGreatDoorW.PrintWords Go.Proofs.YtheheijhijeljaaGreatDoorW.PrintLast Go.Proofs.YtheheijhijeljaaGreatDoorW.PrintMore
set_option linter.unusedVariables false
set_option linter.unusedSimpArgs false
theorem has_pairs (A : Option Addr) (c : Nat) (l : List (Int × Int)) (r : Int) (w : World) (h : Kd.C kRg w A l.length l) :
  Calls Tryz.prog 48 #[.slice A l.length c, .int .i64 r] w fun e w' => e = .returned (.bool (hasL l r)) ∧ Below w.heap.size w w' := by
 have := has_any (d := kRg) (of := fun x => x) (fun h => kRg_K h) kRg_sz A c l r w h
 rwa [List.map_id'] at this
/-- Close's inner function: is it in the list that was handed in. -/
theorem inner_has (A : Option Addr) (c : Nat) (l : List (Int × Int)) (r : Int) (B : Nat) (w : World) (hB : w.cell? ⟨B, 0, none⟩ = some (.slice A l.length c)) (h : Kd.C kRg w A l.length l) :
  Calls Tryz.prog 47 #[.int .i64 r, .pointer (some ⟨B, 0, none⟩)] w fun e w' => e = .returned (.bool (hasL l r)) ∧ Below w.heap.size w w' := by
 have HC := Aside0.mk (has_pairs A c l r w h)
 clear h
 generalize hasL l r = q at HC ⊢
 generalize l.length = n at *
 go_enter Tryz.func47, Tryz.ntmps47
 go_wp2_with fail
 refine HC.out.mono ?_
 rintro e w' ⟨rfl, hb⟩
 go_wp2
 go_ret
 exact ⟨rfl, hb⟩
set_option maxHeartbeats 1000000 in
theorem index_any (A : Option Addr) (c : Nat) (f : List Int) (Al : Option Addr) (cl : Nat) (l : List (Int × Int)) (B : Nat) (w : World) (hB : w.cell? ⟨B, 0, none⟩ = some (.slice Al l.length cl)) (hBw : B < w.heap.size) (h : Kd.C kRg w Al l.length l)
  (hf : Kd.C (Kd.int .i64) w A f.length f) (hn : f.length ≤ 1000000) :
  Calls Tryz.prog 81 #[.slice A f.length c, .func (.func 47) #[] #[.pointer (some ⟨B, 0, none⟩)]] w fun e w' => (∃ i : Int, e = .returned (.int .i64 i) ∧ decide (0 ≤ i) = f.any (hasL l)) ∧ Below w.heap.size w w' := by
 have HI := Aside0.mk (fun (W : World) (r : Int) (hb : Below w.heap.size w W) => inner_has Al cl l r B W ((hb.cell (p := ⟨B, 0, none⟩) hBw).trans hB) (Kd.C_below h hb))
 clear hB h
 have HF := Aside0.mk hf
 clear hf
 generalize hasL l = p at HI ⊢
 obtain ⟨n, hln⟩ : ∃ n, n = f.length := ⟨_, rfl⟩
 have HL := Aside0.mk hln
 rw [← hln] at HF hn ⊢
 clear hln
 have HB0 := Aside0.mk (Below.refl w.heap.size w)
 go_enter Tryz.func81, Tryz.ntmps81
 go_wp2
 go_loopg [8] n (fun g s8 wr => ∃ k : Nat, k ≤ n ∧ n - k ≤ g ∧ s8 = .int .i64 k ∧ Aside0 (f.any p = (f.drop k).any p) ∧ Aside0 (Below w.heap.size w wr))
 case atStart => exact ⟨0, by omega, by omega, rfl, ⟨rfl⟩, HB0⟩
 case round =>
  clear HB0
  obtain ⟨k, hk, hg, rfl, HA, HB⟩ := hrel
  by_cases hlt : k < n
  ·have hf := Kd.C_below HF.out HB.out
   obtain ⟨ad, cs, rfl, hcl, hK, hcell⟩ := ReadsRow.get_ hf (0 : Int) (k : Int) (by omega) (by omega)
   have hx : f.getD ((k : Int)).toNat 0 = f[k]'(by have := HL.out; omega) := by
    rw [Int.toNat_natCast, List.getD_eq_getElem?_getD, List.getElem?_eq_getElem (by have := HL.out; omega)]
    rfl
   rw [hx] at hK
   have hd : (f.drop k).any p = (p (f[k]'(by have := HL.out; omega)) || (f.drop (k + 1)).any p) := by
    rw [List.drop_eq_getElem_cons (by have := HL.out; omega), List.any_cons]
   clear hx
   generalize f[k]'(by have := HL.out; omega) = x at hK hd
   obtain rfl : cs = [.int .i64 x] := hK
   have hc := hcell 0 (.int .i64 x) rfl
   rw [Int.toNat_natCast, show (Kd.int .i64).sz = 1 from rfl, Nat.mul_one, Nat.add_zero] at hc
   have HD := Aside0.mk hd
   clear hd hcell hcl hf
   have HP := Aside0.mk (HI.out wr x HB.out)
   by_cases hp : p x = true
   ·rw [hp] at HP HD
    clear hp
    go_wp2_with fail
    refine HP.out.mono ?_
    rintro e w' ⟨rfl, hb⟩
    have HB' := Aside0.mk (HB.out.trans (hb.mono HB.out.size))
    clear hb
    go_wp2
    go_ret
    refine ⟨⟨(k : Int), rfl, ?_⟩, HB'.out⟩
    rw [HA.out, HD.out, Bool.true_or]
    exact decide_eq_true (by omega)
   ·rw [Bool.not_eq_true] at hp
    rw [hp] at HP HD
    clear hp
    go_wp2_with fail
    refine HP.out.mono ?_
    rintro e w' ⟨rfl, hb⟩
    have HB' := Aside0.mk (HB.out.trans (hb.mono HB.out.size))
    clear hb
    go_wp2
    go_roundg (n - (k + 1))
    case measure => omega
    case rel => exact ⟨k + 1, by omega, by omega, by rw [show (k : Int) + 1 = ((k + 1 : Nat) : Int) by omega], ⟨by rw [HA.out, HD.out, Bool.false_or]⟩, HB'⟩
  ·go_wp2
   go_ret
   refine ⟨⟨-1, rfl, ?_⟩, HB.out⟩
   rw [HA.out, List.drop_of_length_le (by have := HL.out; omega)]
   rfl
theorem contains_any (A : Option Addr) (c : Nat) (f : List Int) (Al : Option Addr) (cl : Nat) (l : List (Int × Int)) (B : Nat) (w : World) (hB : w.cell? ⟨B, 0, none⟩ = some (.slice Al l.length cl)) (hBw : B < w.heap.size) (h : Kd.C kRg w Al l.length l)
  (hf : Kd.C (Kd.int .i64) w A f.length f) (hn : f.length ≤ 1000000) :
  Calls Tryz.prog 46 #[.slice A f.length c, .func (.func 47) #[] #[.pointer (some ⟨B, 0, none⟩)]] w fun e w' => e = .returned (.bool (f.any (hasL l))) ∧ Below w.heap.size w w' := by
 have HI := Aside0.mk (index_any A c f Al cl l B w hB hBw h hf hn)
 clear hB h hf
 generalize f.any (hasL l) = q at HI ⊢
 generalize f.length = n at *
 go_enter Tryz.func46, Tryz.ntmps46
 go_wp2_with fail
 refine HI.out.mono ?_
 rintro e w' ⟨⟨i, rfl, hi⟩, hb⟩
 subst hi
 have HB := Aside0.mk hb
 clear hb
 go_wp2
 go_ret
 exact ⟨by first | rfl | simp, HB.out⟩
end Go.Proofs.YtheheijhijeljaaGreatDoorX
namespace Go.Proofs.YtheheijhijeljaaGreatDoorX
open Go.RowKit Go.Proofs.YtheheijhijeljaaGreatDoorW.PrintWords Go.Proofs.YtheheijhijeljaaGreatDoorW.PrintLast Go.Proofs.YtheheijhijeljaaGreatDoorW.PrintMore
set_option linter.unusedVariables false
set_option linter.unusedSimpArgs false
/-- The variable 'out' at block O holds a row of the call's own, told by acc; S: blocks that the row is none of (O among them). -/
def Col2 (w : World) (O : Nat) (S : Nat → Prop) (W : World) (acc : List (Int × Int)) : Prop :=
 ∃ v, W.heap[O]? = some (.cells #[v] 26 (0, 0)) ∧ Kd.R kRg 36 W w.heap.size (fun k => ¬ S k) v acc ∧ Below w.heap.size w W
theorem Col2.below {w W W' : World} {O : Nat} {S : Nat → Prop} {acc : List (Int × Int)} (h : Col2 w O S W acc) (hb : Below W.heap.size W W') : Col2 w O S W' acc := by
 obtain ⟨v, h1, h2, h4⟩ := h
 exact ⟨v, (hb.block O (blk_lt h1)).trans h1, Kd.R_below h2 hb, h4.trans (hb.mono h4.size)⟩
theorem C_same {w w' : World} {ad : Addr} {n : Nat} {xs : List Int} (h : Kd.C (Kd.int .i64) w (some ad) n xs) (hb : w'.heap[ad.block]? = w.heap[ad.block]?) : Kd.C (Kd.int .i64) w' (some ad) n xs := by
 obtain ⟨h1, h2, h3⟩ := h
 refine ⟨h1, h2, fun hp => ?_⟩
 obtain ⟨ad', he, h4⟩ := h3 hp
 obtain rfl := Option.some.inj he
 refine ⟨ad, rfl, fun j p hj => ?_⟩
 obtain ⟨c, c1, c2, c3⟩ := h4 j p hj
 refine ⟨c, c1, c2, fun i u hi => ?_⟩
 have := c3 i u hi
 have e : ∀ k, (ad.add k).block = ad.block := fun k => by unfold Addr.add; split <;> rfl
 unfold World.cell? at this ⊢
 rw [e] at this ⊢
 rw [hb]
 exact this
def addF (l : List (Int × Int)) (c : Int) : List (Int × Int) := if (famF c).any (hasL l) then (famF c).map (fun r => (r, r)) else []
set_option maxHeartbeats 2000000 in
theorem add_any (w : World) (O B : Nat) (S : Nat → Prop) (hSO : S O) (hwO : w.heap.size ≤ O) (hSB : S B) (Al : Option Addr) (cl : Nat) (l : List (Int × Int))
  (hl : Kd.C kRg w Al l.length l) (c : Int) (hfam : (famF c).length ≤ 100) (acc : List (Int × Int)) (hacc : acc.length ≤ 1000000) (W : World) (hcell : W.heap[B]? = some (.cells #[.slice Al l.length cl] 26 (0, 0))) (hS : ∀ k, S k → k < W.heap.size) (hc : Col2 w O S W acc) :
  Calls Tryz.prog 44 #[.int .i64 c, .pointer (some ⟨B, 0, none⟩), .pointer (some ⟨O, 0, none⟩)] W fun e w' => e = .returned (.tuple #[]) ∧ Col2 w O S w' (acc ++ addF l c) ∧ ∀ k, S k → k ≠ O → w'.heap[k]? = W.heap[k]? := by
 have HSS := Aside0.mk hS
 clear hS
 have HF := Aside0.mk (family_any c W)
 have HC := Aside0.mk hc
 have HLC := Aside0.mk hl
 have HBX := Aside0.mk hcell
 clear hc hl hcell
 have HCO := Aside0.mk (fun (A : Option Addr) (ca : Nat) (w' : World) (h : Kd.C (Kd.int .i64) w' A (famF c).length (famF c)) (hk : w'.cell? ⟨B, 0, none⟩ = some (.slice Al l.length cl)) (hb : B < w'.heap.size) (h2 : Kd.C kRg w' Al l.length l) => contains_any A ca (famF c) Al cl l B w' hk hb h2 h (by omega))
 unfold addF
 generalize famF c = fam at HF HCO hfam ⊢
 generalize hq : fam.any (hasL l) = q at HCO ⊢
 clear hq
 obtain ⟨T, hT⟩ : ∃ T, T = acc ++ (if q = true then fam.map (fun r => (r, r)) else []) := ⟨_, rfl⟩
 rw [← hT]
 have HT := Aside0.mk hT
 clear hT
 go_enter Tryz.func44, Tryz.ntmps44
 go_wp2_with fail
 refine HF.out.mono ?_
 rintro e w1 ⟨v1, rfl, hR1, hb1⟩
 obtain ⟨A1, c1, rfl⟩ := Kd.R_slice hR1
 have HR1 := Aside0.mk hR1
 have HC1 := Aside0.mk (HC.out.below hb1)
 have HS := Aside0.mk (show Col2 w O (fun k => S k ∨ some k = (Value.slice A1 fam.length c1).ownBlock) w1 acc from by
  obtain ⟨v, h1, h2, h4⟩ := HC.out
  exact ⟨v, (hb1.block O (blk_lt h1)).trans h1, Kd.R_mono (Kd.R_elder' h2 (Kd.R_base hR1) hb1) (fun k hk hs => hs.elim hk.1 hk.2), h4.trans (hb1.mono h4.size)⟩)
 have HK1 := Aside0.mk (fun k hk => hb1.block k (HSS.out k hk))
 have HL1 := Aside0.mk (fun k (hk : S k) => Nat.lt_of_lt_of_le (HSS.out k hk) hb1.size)
 have HWW := Aside0.mk (show O < W.heap.size from by
  obtain ⟨v, h1, h2, h4⟩ := HC.out
  exact blk_lt h1)
 clear hR1 hb1 HF HC
 go_wp2_with fail
 refine (HCO.out A1 c1 w1 (Kd.R_reads' HR1.out).2.2 ?_ ?_ ?_).mono ?_
 ·exact (blk_cell ((HK1.out B hSB).trans HBX.out) 0).trans rfl
 ·exact HL1.out B hSB
 ·obtain ⟨v, h1, h2, h4⟩ := HC1.out
  exact Kd.C_below HLC.out h4
 rintro e w2 ⟨rfl, hb2⟩
 have HC2 := Aside0.mk (HC1.out.below hb2)
 have HS2 := Aside0.mk (HS.out.below hb2)
 have HK2 := Aside0.mk (fun k hk => (hb2.block k (HL1.out k hk)).trans (HK1.out k hk))
 have HL2 := Aside0.mk (fun k (hk : S k) => Nat.lt_of_lt_of_le (HL1.out k hk) hb2.size)
 have HF2 := Aside0.mk (Kd.C_below (Kd.R_reads' HR1.out).2.2 hb2)
 clear hb2 HCO HC1 HS
 cases q with
 | false =>
  go_wp2
  go_end0
  refine ⟨rfl, ?_, fun k hk _ => HK2.out k hk⟩
  rw [HT.out, if_neg (by simp), List.append_nil]
  exact HC2.out
 | true =>
  have hT := HT.out
  rw [if_pos rfl] at hT
  clear HT
  have HT := Aside0.mk hT
  obtain ⟨n, hn⟩ : ∃ n, n = fam.length := ⟨_, rfl⟩
  have HN := Aside0.mk hn
  clear hT
  rw [← hn] at HF2 HS2 HR1 hfam ⊢
  clear hn HC2
  have HR2 := Aside0.mk (Kd.R_base HR1.out)
  clear HR1
  go_wp2
  go_loopg [14] n (fun g s14 wr => ∃ k : Nat, k ≤ n ∧ n - k ≤ g ∧ s14 = .int .i64 k ∧ Aside0 (Col2 w O (fun k => S k ∨ some k = (Value.slice A1 n c1).ownBlock) wr (acc ++ (fam.take k).map (fun r => (r, r)))) ∧ Aside0 (Kd.C (Kd.int .i64) wr A1 n fam) ∧ Aside0 (∀ k, S k → k ≠ O → wr.heap[k]? = W.heap[k]?) ∧ Aside0 (∀ k, S k → k < wr.heap.size))
  case atStart => exact ⟨0, by omega, by omega, rfl, by simpa using HS2, HF2, ⟨fun k hk _ => HK2.out k hk⟩, HL2⟩
  case round =>
   clear HS2 HF2 HK2 HL2 HK1 HL1
   obtain ⟨k, hk, hg, rfl, HS, HF, HKK, HLL⟩ := hrel
   by_cases hlt : k < n
   ·have hf := HF.out
    obtain ⟨ad, cs, rfl, hcl, hK, hcell⟩ := ReadsRow.get_ hf (0 : Int) (k : Int) (by omega) (by omega)
    have hx : fam.getD ((k : Int)).toNat 0 = fam[k]'(by have := HN.out; omega) := by
     rw [Int.toNat_natCast, List.getD_eq_getElem?_getD, List.getElem?_eq_getElem (by have := HN.out; omega)]
     rfl
    rw [hx] at hK
    have hd : (fam.take (k + 1)).map (fun r => (r, r)) = (fam.take k).map (fun r => (r, r)) ++ [(fam[k]'(by have := HN.out; omega), fam[k]'(by have := HN.out; omega))] := by
     rw [List.take_succ_eq_append_getElem (by have := HN.out; omega), List.map_append]; rfl
    clear hx
    generalize fam[k]'(by have := HN.out; omega) = x at hK hd
    obtain rfl : cs = [.int .i64 x] := hK
    have hc := hcell 0 (.int .i64 x) rfl
    rw [Int.toNat_natCast, show (Kd.int .i64).sz = 1 from rfl, Nat.mul_one, Nat.add_zero] at hc
    have HD := Aside0.mk (show acc ++ (fam.take (k + 1)).map (fun r => (r, r)) = (acc ++ (fam.take k).map (fun r => (r, r))) ++ [(x, x)] by rw [hd, List.append_assoc])
    have hal : (acc ++ (fam.take k).map (fun r => (r, r))).length ≤ 1000100 := by
     rw [List.length_append, List.length_map, List.length_take]; omega
    clear hd hcell hcl hf
    obtain ⟨v, h1, h2, h4⟩ := HS.out
    generalize acc ++ (fam.take k).map (fun r => (r, r)) = ac at h2 hal HD
    have hcO : wr.cell? ⟨O, 0, none⟩ = some v := (blk_cell h1 0).trans rfl
    have hfO := blk_frozen h1 0
    have hOw : O < wr.heap.size := blk_lt h1
    have hOne : O ≠ wr.heap.size := by omega
    have H1 := Aside0.mk h1
    have H2 := Aside0.mk h2
    have H4 := Aside0.mk h4
    clear h1 h2 h4 HS
    have hbl : ad.block < wr.heap.size := by
     have := World.block_lt_of_cell? wr _ hc
     have e : (ad.add k).block = ad.block := by unfold Addr.add; split <;> rfl
     rwa [e] at this
    have hb1 : Below wr.heap.size wr (wr.alloc (.cells #[.int .i64 x, .int .i64 x] 36)) := (Below.refl _ wr).alloc (Nat.le_refl _) _
    have HBA := Aside0.mk hb1
    have HBL := Aside0.mk hbl
    clear hb1 hbl
    go_wp2_with (at_builtin; refine Kd.R_append kRg (w0 := wr) (W := wr) w.heap.size rfl (.tmp 18) (.tmp 22) 26 36 (.agg #[(.int .i64 0), (.int .i64 0)]) 16 rfl Tryz.underlying26 info_rg rfl (by decide) (by omega) v ac (x, x) [.int .i64 x, .int .i64 x] (fun k => ¬ (S k ∨ some k = (Value.slice (some ad) n c1).ownBlock)) (fun _ => False) rfl ?aX ?aP (fun _ hk => hk.elim) ?aF H2.out (Below.refl _ wr) H4.out.size ?aL ?_; (case aX => (first | rfl | (simp [Act.eval]; done) | (simp [Act.eval] <;> rfl))); (case aP => exact kRg_fixed.make _ _ _ (x, x)); (case aF => exact fun k hk hs => hs.elim (fun h => by have := HLL.out k h; omega) (fun h => by have := HBL.out; simp [Value.ownBlock] at h; omega)); (case aL => omega); intro v1 w3 ho hb hg hat; obtain ⟨A1, c3, e1⟩ := Kd.R_slice ho; have hle : (ac ++ [(x, x)]).length = ac.length + 1 := (by simp); rw [hle] at e1; clear hle; subst e1; have hnv : some O ≠ v.ownBlock := (fun e => H2.out.1 O e.symm (.inl hSO)); have hb1 : w3.heap[O]? = some (.cells #[v] 26 (0, 0)) := (hg.block O hOw hnv).trans H1.out; have hcell1 : w3.cell? ⟨O, 0, none⟩ = some v := (blk_cell hb1 0).trans rfl; have hfr1 : w3.frozen? ⟨O, 0, none⟩ = false := blk_frozen hb1 0; have HO := Aside0.mk ho; have HG := Aside0.mk hg; have HX := Aside0.mk hb1; clear ho hb hg hat hnv hb1)
    go_roundg (n - (k + 1))
    case measure => omega
    case rel =>
     have hadO : ad.block ≠ O := fun e => by have h1 := HR2.out ad.block rfl; have h2 := HWW.out; omega
     refine ⟨k + 1, by omega, by omega, rfl, ⟨⟨(.slice A1 (ac.length + 1) c3), blk_put HX.out 0 _ rfl, ?_, ?_⟩⟩, ⟨C_same HF.out ?_⟩, ⟨fun i hi hiO => ?_⟩, ⟨fun i hi => ?_⟩⟩
     ·rw [HD.out]
      exact Kd.R_mono (Kd.R_far (Kd.R_bound HO.out) (p := ⟨O, 0, none⟩) (fun k hk => show k ≠ O from fun e => hk.1 (.inl (e ▸ hSO))) (.slice A1 (ac.length + 1) c3)) (fun _ hk => hk.1)
     ·exact (H4.out.grown HG.out H4.out.size (fun k hk => by have := (Kd.R_bound H2.out).1 k hk; omega)).setCell (p := ⟨O, 0, none⟩) hwO (.slice A1 (ac.length + 1) c3)
     ·rw [Below.heap_setCell w3 ⟨O, 0, none⟩ (.slice A1 (ac.length + 1) c3) ad.block hadO]
      exact HG.out.block ad.block HBL.out (fun e => H2.out.1 ad.block e.symm (.inr rfl))
     ·rw [Below.heap_setCell w3 ⟨O, 0, none⟩ (.slice A1 (ac.length + 1) c3) i hiO]
      exact (HG.out.block i (HLL.out i hi) (fun e => H2.out.1 i e.symm (.inl hi))).trans (HKK.out i hi hiO)
     ·exact Nat.lt_of_lt_of_le (HLL.out i hi) (by simpa [World.setCell] using HG.out.size)
   ·go_wp2
    go_end0
    refine ⟨rfl, ?_, HKK.out⟩
    obtain ⟨v, h1, h2, h4⟩ := HS.out
    rw [List.take_of_length_le (by have := HN.out; omega)] at h2
    rw [HT.out]
    exact ⟨v, h1, Kd.R_mono h2 (fun _ hk h => hk (.inl h)), h4⟩
end Go.Proofs.YtheheijhijeljaaGreatDoorX
namespace Go.Proofs.YtheheijhijeljaaGreatDoorX
open Go.RowKit Go.Proofs.YtheheijhijeljaaGreatDoorW.PrintWords Go.Proofs.YtheheijhijeljaaGreatDoorW.PrintLast Go.Proofs.YtheheijhijeljaaGreatDoorW.PrintMore
set_option linter.unusedVariables false
set_option linter.unusedSimpArgs false
set_option maxHeartbeats 1000000 in
theorem clone_any (A : Option Addr) (c : Nat) (l : List (Int × Int)) (w : World) (h : Kd.C kRg w A l.length l) (hn : l.length ≤ 100000) :
  Calls Tryz.prog 43 #[.slice A l.length c] w (BothPost w l) := by
 by_cases hp : 0 < l.length
 ·obtain ⟨b, off, rfl, hb, _, hc⟩ := row_cells (d := kRg) (of := fun x => x) (fun h => kRg_K h) kRg_sz h hp
  rw [List.map_id'] at hc
  obtain ⟨i0, hi, hzz⟩ := Option.map_eq_some_iff.1 info_rg
  simp only [Prod.mk.injEq] at hzz
  obtain ⟨hz0, hz1, hz2⟩ := hzz
  have hcl := AnyE.slices_Clone Tryz.lay_cloneRange i0 (.agg #[(.int .i64 0), (.int .i64 0)]) 2 16 hi hz0 hz1 hz2 rfl (by omega) Tryz.sizeOf36 b off l.length c (l.flatMap encRg) w ?_ ?_ ?_ ?_ ?_
  ·refine hcl.mono fun e w' ⟨v, he, ho, _, hb⟩ => ⟨v, he, (fixed_R kRg_fixed).2 ⟨fun _ _ => trivial, ho⟩, hb⟩
  ·exact flat_len 2 (fun _ => rfl) l
  ·unfold maxLen; omega
  ·omega
  ·intro j u hj
   have hlen := flat_len (enc := encRg) 2 (fun _ => rfl) l
   have hjl : j < l.length * 2 := by
    rw [← hlen]
    exact (List.getElem?_eq_some_iff.1 hj).1
   have hr := (reps_of_flat (R := fun p c => c = encRg p) (k := 2) (enc := encRg) (fun _ => rfl) (fun _ => rfl) l).2 (j / 2) _ (List.getElem?_eq_getElem (by omega))
   have hu : (encRg (l[j / 2]'(by omega)))[j % 2]? = some u := by
    rw [← hr, List.getElem?_take, if_pos (by omega), List.getElem?_drop, show j / 2 * 2 + j % 2 = j by omega]
    exact hj
   have := hc (j / 2) (by omega) (j % 2) u (by rw [getElem!_pos l (j / 2) (by omega)]; exact hu)
   rw [show off + j / 2 * 2 + j % 2 = off + j by omega] at this
   exact this
  ·intro u hu
   obtain ⟨x, _, hx⟩ := List.mem_flatMap.1 hu
   rw [show encRg x = [.int .i64 x.1, .int .i64 x.2] from rfl] at hx
   simp only [List.mem_cons, List.not_mem_nil, or_false] at hx
   rcases hx with rfl | rfl <;> rfl
 ·have e : l = [] := List.length_eq_zero_iff.1 (by omega)
  subst e
  clear h hn hp
  have q29 : ∀ (w : World) (a : Option Addr) (n c n' c' : Nat), (binOp .eql 26 (.slice a n c) (.slice none n' c')).run Tryz.prog w = .ok (.bool a.isNone) w := fun w a n c n' c' => Lib.run_eql_slice_nil w _ _ a n c n' c' Tryz.underlying26
  rw [List.length_nil]
  have HO := Aside0.mk (show Kd.R kRg 36 (w.alloc (.cells #[] 36)) w.heap.size (fun _ => True) (.slice (some ⟨w.heap.size, 0, none⟩) 0 0) [] from (fixed_R kRg_fixed).2 ⟨fun _ _ => trivial, rfl, .inr ⟨w.heap.size, 0, #[], rfl, Nat.le_refl _, heap_alloc_last _ _, Nat.le_refl _, by decide, rfl, rfl⟩⟩)
  have HB := Aside0.mk (show Below w.heap.size w (w.alloc (.cells #[] 36)) from (Below.refl _ w).alloc (Nat.le_refl _) _)
  go_enter Tryz.func43, Tryz.ntmps43
  cases A with
  | none =>
   go_wp2
   go_ret
   exact ⟨_, rfl, Kd.R_nil _ _ _ _ _, Below.refl _ _⟩
  | some ad =>
   go_wp2_with (at_builtin; refine Kd.R_append_rows kRg (Rr := kRg.K (w.alloc (.cells #[] 36))) (w0 := w) w.heap.size rfl (.tmp 5) (.tmp 6) 26 36 (.agg #[(.int .i64 0), (.int .i64 0)]) 16 rfl Tryz.underlying26 info_rg rfl (by decide) (by omega) _ [] [] (some ad) _ _ (fun _ => True) (fun _ => False) rfl rfl HO.out ?aR (fun x cs h => by rw [kRg_K h]; exact kRg_fixed.make _ _ _ x) (fun _ h => h.elim) ?aF HB.out HB.out.size ?aL ?_; (case aR => exact ⟨rfl, by omega, fun h => absurd h (by omega)⟩); (case aF => exact fun _ _ => trivial); (case aL => simp); intro v2 w2 ho hb hg hat; have HO2 := Aside0.mk ho; have HB2 := Aside0.mk hb; clear ho hb hg hat)
   go_ret
   exact ⟨_, rfl, HO2.out, HB2.out⟩
end Go.Proofs.YtheheijhijeljaaGreatDoorX
namespace Go.Proofs.YtheheijhijeljaaGreatDoorX
set_option linter.unusedVariables false
/-- The capitals, in the order of Close's loops. -/
def runL (lo hi : Int) : List Int := (List.range (hi + 1 - lo).toNat).map (fun (i : Nat) => lo + i)
def capsB (k : Nat) : List Int := (blocksL.drop k).flatMap (fun x => runL x.1 x.2.1)
def capsO (k : Nat) : List Int := (othersL.drop k).map (fun x => x.2)
def closeL (l : List (Int × Int)) : List (Int × Int) := normL (l ++ (capsB 0 ++ capsO 0).flatMap (addF l))
theorem famB_len (c : Int) : ∀ t : List (Int × Int × Int), (famB t c).length ≤ t.length
 | [] => by simp [famB]
 | (lo, hi, up) :: t => by
  have := famB_len c t
  unfold famB
  split <;> simp <;> omega
theorem famO_len (c : Int) : ∀ t : List (Int × Int), (famO t c).length ≤ t.length
 | [] => by simp [famO]
 | (a, b) :: t => by
  have := famO_len c t
  unfold famO
  split <;> simp <;> omega
theorem fam_small (c : Int) : (famF c).length ≤ 15 := by
 unfold famF fam0
 rw [List.length_mergeSort, List.length_cons, List.length_append]
 have h1 := famB_len (capF c) blocksL
 have h2 := famO_len (capF c) othersL
 have e1 : blocksL.length = 7 := rfl
 have e2 : othersL.length = 7 := rfl
 omega
theorem addF_small (l : List (Int × Int)) (c : Int) : (addF l c).length ≤ 15 := by
 have := fam_small c
 unfold addF
 split <;> simp <;> omega
theorem runL_cons {lo hi : Int} (h : lo ≤ hi) : runL lo hi = lo :: runL (lo + 1) hi := by
 unfold runL
 rw [show (hi + 1 - lo).toNat = (hi + 1 - (lo + 1)).toNat + 1 by omega, List.range_succ_eq_map, List.map_cons, List.map_map]
 congr 1
 ·simp
 ·apply List.map_congr_left
  intro i _
  simp only [Function.comp]
  omega
theorem runL_nil {lo hi : Int} (h : hi < lo) : runL lo hi = [] := by
 unfold runL
 rw [show (hi + 1 - lo).toNat = 0 by omega]
 rfl
def blkAt (k : Nat) : Int × Int × Int := blocksL.getD k (0, 0, 0)
def othAt (k : Nat) : Int × Int := othersL.getD k (0, 0)
theorem capsB_step {k : Nat} (h : k < 7) : capsB k = runL (blkAt k).1 (blkAt k).2.1 ++ capsB (k + 1) := by
 unfold capsB blkAt
 have h' : k < blocksL.length := h
 rw [List.drop_eq_getElem_cons h', List.flatMap_cons, List.getD_eq_getElem?_getD, List.getElem?_eq_getElem h']
 rfl
theorem capsO_step {k : Nat} (h : k < 7) : capsO k = (othAt k).2 :: capsO (k + 1) := by
 unfold capsO othAt
 have h' : k < othersL.length := h
 rw [List.drop_eq_getElem_cons h', List.map_cons, List.getD_eq_getElem?_getD, List.getElem?_eq_getElem h']
 rfl
theorem blkAt_in {k : Nat} (h : k < 7) : 0 ≤ (blkAt k).1 ∧ (blkAt k).1 ≤ (blkAt k).2.1 ∧ (blkAt k).2.1 ≤ 2000 ∧ (blkAt k).2.1 - (blkAt k).1 ≤ 31 := by
 have : k = 0 ∨ k = 1 ∨ k = 2 ∨ k = 3 ∨ k = 4 ∨ k = 5 ∨ k = 6 := by omega
 rcases this with rfl | rfl | rfl | rfl | rfl | rfl | rfl <;> decide
theorem bi_all {k : Nat} (h : k < 7) (w : World) : (Instr.index 65 blocksV (.int .i64 k)).run Tryz.prog w = .ok (.agg #[.int .i64 (blkAt k).1, .int .i64 (blkAt k).2.1, .int .i64 (blkAt k).2.2]) w := by
 have : k = 0 ∨ k = 1 ∨ k = 2 ∨ k = 3 ∨ k = 4 ∨ k = 5 ∨ k = 6 := by omega
 rcases this with rfl | rfl | rfl | rfl | rfl | rfl | rfl
 ·exact bi0 w
 ·exact bi1 w
 ·exact bi2 w
 ·exact bi3 w
 ·exact bi4 w
 ·exact bi5 w
 ·exact bi6 w
theorem oi_all {k : Nat} (h : k < 7) (w : World) : (Instr.index 69 othersV (.int .i64 k)).run Tryz.prog w = .ok (.agg #[.int .i64 (othAt k).1, .int .i64 (othAt k).2]) w := by
 have : k = 0 ∨ k = 1 ∨ k = 2 ∨ k = 3 ∨ k = 4 ∨ k = 5 ∨ k = 6 := by omega
 rcases this with rfl | rfl | rfl | rfl | rfl | rfl | rfl
 ·exact oi0 w
 ·exact oi1 w
 ·exact oi2 w
 ·exact oi3 w
 ·exact oi4 w
 ·exact oi5 w
 ·exact oi6 w
end Go.Proofs.YtheheijhijeljaaGreatDoorX
namespace Go.Proofs.YtheheijhijeljaaGreatDoorX
open Go.RowKit Go.Proofs.YtheheijhijeljaaGreatDoorW.PrintWords Go.Proofs.YtheheijhijeljaaGreatDoorW.PrintLast Go.Proofs.YtheheijhijeljaaGreatDoorW.PrintMore
set_option linter.unusedVariables false
set_option linter.unusedSimpArgs false
set_option maxHeartbeats 8000000 in
theorem close_any (hN : NormAt normL (fun l => l.length ≤ 900000)) (A : Option Addr) (cl : Nat) (l : List (Int × Int)) (w : World) (h : Kd.C kRg w A l.length l) (hn : l.length ≤ 100000) :
  Calls Tryz.prog 20 #[.slice A l.length cl] w (BothPost w (closeL l)) := by
 have hW1 : Below w.heap.size w (w.alloc (.cells #[.slice A l.length cl] 26)) := (Below.refl _ w).alloc (Nat.le_refl _) _
 have HCL := Aside0.mk (clone_any A cl l _ (Kd.C_below h hW1) hn)
 have HC := Aside0.mk h
 have HW1 := Aside0.mk hW1
 clear h hW1
 obtain ⟨T, hT⟩ : ∃ T, T = l ++ (capsB 0 ++ capsO 0).flatMap (addF l) := ⟨_, rfl⟩
 have HTL := Aside0.mk (show T.length ≤ 200000 from by
  have hlen : ∀ c : List Int, (c.flatMap (addF l)).length ≤ 15 * c.length := by
   intro c
   induction c with
   | nil => simp
   | cons x t ih =>
    have := addF_small l x
    rw [List.flatMap_cons, List.length_append, List.length_cons]
    omega
  have h1 := hlen (capsB 0 ++ capsO 0)
  have h2 : (capsB 0 ++ capsO 0).length ≤ 140 := by decide +kernel
  rw [hT, List.length_append]
  omega)
 have HT := Aside0.mk hT.symm
 unfold closeL
 rw [← hT]
 have HNT := Aside0.mk (fun (A : Option Addr) (c : Nat) (w : World) (hp : T.length ≤ 900000) (h : Kd.C kRg w A T.length T) (hc : T.length ≤ c) => hN A c T w hp h hc)
 clear hN hT
 go_enter Tryz.func20, Tryz.ntmps20
 go_wp2_with fail
 refine HCL.out.mono ?_
 rintro e w1 ⟨v1, rfl, hR1, hb1⟩
 obtain ⟨A1, c1, rfl⟩ := Kd.R_slice hR1
 have HR1 := Aside0.mk hR1
 have HB1 := Aside0.mk hb1
 have hlt : w.heap.size < w1.heap.size := by have := hb1.size; simp at this; omega
 have hne : w.heap.size ≠ w1.heap.size := by omega
 have HLT := Aside0.mk hlt
 clear hR1 hb1 hlt HCL
 go_wp2_with fail
 refine (blocks_any _).mono ?_
 rintro e w2 ⟨rfl, hb2⟩
 have HC2 := Aside0.mk (show Col2 w w1.heap.size (fun k => k = w1.heap.size ∨ k = w.heap.size) w2 l from by
  have hal : Below w1.heap.size w1 (w1.alloc (.cells #[.slice A1 l.length c1] 26)) := (Below.refl _ w1).alloc (Nat.le_refl _) _
  refine Col2.below (W := w1.alloc (.cells #[.slice A1 l.length c1] 26)) ⟨_, heap_alloc_last _ _, ?_, ?_⟩ hb2
  ·refine Kd.R_below (w := w1) ?_ hal
   refine Kd.R_lower (Kd.R_mono (Kd.R_bound HR1.out) (fun k hk hs => ?_)) (by simp)
   have h2 := hk.2.1
   have h3 := hk.2.2.1
   simp at h2
   omega
  ·exact (HW1.out.trans (HB1.out.mono (by simp))).trans (hal.mono (Nat.le_of_lt HLT.out)))
 have HBX := Aside0.mk (show w2.heap[w.heap.size]? = some (.cells #[.slice A l.length cl] 26 (0, 0)) from by
  have e1 : w1.heap[w.heap.size]? = some (.cells #[.slice A l.length cl] 26 (0, 0)) := (HB1.out.block _ (by simp)).trans (heap_alloc_last _ _)
  have hal : Below w1.heap.size w1 (w1.alloc (.cells #[.slice A1 l.length c1] 26)) := (Below.refl _ w1).alloc (Nat.le_refl _) _
  exact (hb2.block _ (by simp; have := HLT.out; omega)).trans ((hal.block _ HLT.out).trans e1))
 clear hb2 HR1
 have HLL := Aside0.mk (show l.length ≤ 100000 from hn)
 go_wp2_with fail
 go_loopg [14] 7 (fun g s14 wr => ∃ (k : Nat) (acc : List (Int × Int)), k ≤ 7 ∧ 7 - k ≤ g ∧ s14 = .int .i64 k ∧ Aside0 (Col2 w w1.heap.size (fun k => k = w1.heap.size ∨ k = w.heap.size) wr acc) ∧ Aside0 (wr.heap[w.heap.size]? = some (.cells #[.slice A l.length cl] 26 (0, 0))) ∧ Aside0 (acc ++ (capsB k ++ capsO 0).flatMap (addF l) = T))
 case atStart => exact ⟨0, l, by omega, by omega, rfl, HC2, HBX, HT⟩
 case round =>
  obtain ⟨k, acc, hk, hg, rfl, HC2', HX, HA⟩ := hrel
  clear HC2 HBX HT
  by_cases hlt : k < 7
  ·have ii := fun w => bi_all hlt w
   have hbk := blkAt_in hlt
   have hcs := capsB_step hlt
   generalize blkAt k = b at ii hbk hcs
   obtain ⟨lo, hi, up⟩ := b
   simp only at ii hbk hcs
   go_wp2
   have hOwr : w1.heap.size < wr.heap.size := by
    obtain ⟨v, h1, h2, h4⟩ := HC2'.out
    exact blk_lt h1
   have hBwr : w.heap.size < wr.heap.size := blk_lt HX.out
   have hal : Below wr.heap.size wr (wr.alloc (.cells #[.int .i64 lo, .int .i64 hi, .int .i64 up] 64)) := (Below.refl _ wr).alloc (Nat.le_refl _) _
   have HC3 := Aside0.mk (show Col2 w w1.heap.size (fun k => (k = w1.heap.size ∨ k = w.heap.size) ∨ k = wr.heap.size) (wr.alloc (.cells #[.int .i64 lo, .int .i64 hi, .int .i64 up] 64)) acc from by
    obtain ⟨v, h1, h2, h4⟩ := HC2'.out
    refine Col2.below (W := wr) ⟨v, h1, Kd.R_mono (Kd.R_bound h2) (fun k hk hs => ?_), h4⟩ hal
    rcases hs with hs | hs
    ·exact hk.1 hs
    ·have := hk.2.2.1
     omega)
   have HX3 := Aside0.mk ((hal.block _ hBwr).trans HX.out)
   have HD3 := Aside0.mk (show (wr.alloc (.cells #[.int .i64 lo, .int .i64 hi, .int .i64 up] 64)).heap[wr.heap.size]? = some (.cells #[.int .i64 lo, .int .i64 hi, .int .i64 up] 64 (0, 0)) from heap_alloc_last _ _)
   have HA3 := Aside0.mk (show acc ++ ((runL lo hi).flatMap (addF l) ++ (capsB (k + 1) ++ capsO 0).flatMap (addF l)) = T from by
    rw [← HA.out, hcs, List.append_assoc, List.flatMap_append (xs := runL lo hi)])
   have HOW := Aside0.mk hOwr
   clear hal HC2' HX HA hcs ii hOwr hBwr
   obtain ⟨D, hD⟩ : ∃ D, D = wr.heap.size := ⟨_, rfl⟩
   rw [← hD] at HC3 HD3 HOW ⊢
   clear hD
   generalize wr.alloc (.cells #[.int .i64 lo, .int .i64 hi, .int .i64 up] 64) = wi at HC3 HX3 HD3 ⊢
   rw [show decide ((k : Int) < 7) = true from decide_eq_true (by omega)]
   go_loopg [7] (hi + 1 - lo).toNat (fun g s7 wr2 => ∃ (c : Int) (acc2 : List (Int × Int)), lo ≤ c ∧ c ≤ hi + 1 ∧ (hi + 1 - c).toNat ≤ g ∧ s7 = .int .i64 c ∧ Aside0 (Col2 w w1.heap.size (fun k => (k = w1.heap.size ∨ k = w.heap.size) ∨ k = D) wr2 acc2) ∧ Aside0 (wr2.heap[w.heap.size]? = some (.cells #[.slice A l.length cl] 26 (0, 0))) ∧ Aside0 (wr2.heap[D]? = some (.cells #[.int .i64 lo, .int .i64 hi, .int .i64 up] 64 (0, 0))) ∧ Aside0 (acc2 ++ ((runL c hi).flatMap (addF l) ++ (capsB (k + 1) ++ capsO 0).flatMap (addF l)) = T))
   case atStart => exact ⟨lo, acc, by omega, by omega, by omega, rfl, HC3, HX3, HD3, HA3⟩
   case round =>
    clear HC3 HX3 HD3 HA3
    obtain ⟨c, acc2, hc0, hc1, hg2, rfl, HC4, HX4, HD4, HA4⟩ := hrel
    have hcell1 : wr.cell? ⟨D, 1, none⟩ = some (.int .i64 hi) := (blk_cell HD4.out 1).trans rfl
    by_cases hch : c ≤ hi
    ·have HADD := Aside0.mk (add_any w w1.heap.size w.heap.size (fun k => (k = w1.heap.size ∨ k = w.heap.size) ∨ k = D) (.inl (.inl rfl)) (Nat.le_of_lt HLT.out) (.inl (.inr rfl)) A cl l HC.out c (by have := fam_small c; omega) acc2 (by
       have h1 := congrArg List.length HA4.out
       have h2 := HTL.out
       rw [List.length_append] at h1
       omega) wr HX4.out (fun k hk => by
       rcases hk with (hk | hk) | hk
       ·obtain ⟨v, h1, h2, h4⟩ := HC4.out
        exact hk ▸ blk_lt h1
       ·exact hk ▸ blk_lt HX4.out
       ·exact hk ▸ blk_lt HD4.out) HC4.out)
     have HRL := Aside0.mk (runL_cons hch)
     generalize runL c hi = rl at HRL HA4
     clear hcell1
     have hcell1 : wr.cell? ⟨D, 1, none⟩ = some (.int .i64 hi) := (blk_cell HD4.out 1).trans rfl
     go_wp2_with fail
     refine HADD.out.mono ?_
     rintro e w4 ⟨rfl, hc4, hk4⟩
     have HC5 := Aside0.mk hc4
     have HK5 := Aside0.mk hk4
     clear hc4 hk4 HADD
     go_wp2
     go_roundg (hi + 1 - (c + 1)).toNat
     case measure => omega
     case rel =>
      refine ⟨c + 1, acc2 ++ addF l c, by omega, by omega, by omega, rfl, HC5, ⟨?_⟩, ⟨?_⟩, ⟨?_⟩⟩
      ·exact (HK5.out _ (.inl (.inr rfl)) hne).trans HX4.out
      ·exact (HK5.out _ (.inr rfl) (by have := HOW.out; omega)).trans HD4.out
      ·rw [← HA4.out, HRL.out, List.flatMap_cons, List.append_assoc, List.append_assoc]
    ·have HRL := Aside0.mk (runL_nil (show hi < c by omega))
     generalize runL c hi = rl at HRL HA4
     go_wp2
     go_roundg (6 - k)
     case measure => omega
     case rel =>
      refine ⟨k + 1, acc2, by omega, by omega, rfl, ⟨?_⟩, HX4, ⟨?_⟩⟩
      ·obtain ⟨v, h1, h2, h4⟩ := HC4.out
       exact ⟨v, h1, Kd.R_mono h2 (fun k hk hs => hk (.inl hs)), h4⟩
      ·rw [← HA4.out, HRL.out, List.flatMap_nil, List.nil_append]
  ·have hk7 : k = 7 := by omega
   subst hk7
   have HA1 := Aside0.mk (show acc ++ (capsO 0).flatMap (addF l) = T from HA.out)
   clear HA
   go_wp2_with fail
   refine (others_any _).mono ?_
   rintro e w3 ⟨rfl, hb3⟩
   have HC3 := Aside0.mk (HC2'.out.below hb3)
   have HX3 := Aside0.mk ((hb3.block _ (blk_lt HX.out)).trans HX.out)
   clear hb3 HC2' HX
   go_wp2_with fail
   go_loopg [30] 7 (fun g s30 wr => ∃ (k : Nat) (acc : List (Int × Int)), k ≤ 7 ∧ 7 - k ≤ g ∧ s30 = .int .i64 k ∧ Aside0 (Col2 w w1.heap.size (fun k => k = w1.heap.size ∨ k = w.heap.size) wr acc) ∧ Aside0 (wr.heap[w.heap.size]? = some (.cells #[.slice A l.length cl] 26 (0, 0))) ∧ Aside0 (acc ++ (capsO k).flatMap (addF l) = T))
   case atStart => exact ⟨0, acc, by omega, by omega, rfl, HC3, HX3, HA1⟩
   case round =>
    clear HC3 HX3 HA1 acc
    obtain ⟨k, acc, hk2, hg2, rfl, HC4, HX4, HA4⟩ := hrel
    by_cases hlt2 : k < 7
    ·have ii := fun w => oi_all hlt2 w
     have hcs := capsO_step hlt2
     generalize othAt k = b at ii hcs
     obtain ⟨r, c⟩ := b
     simp only at ii hcs
     have hal : Below wr.heap.size wr (wr.alloc (.cells #[.int .i64 r, .int .i64 c] 68)) := (Below.refl _ wr).alloc (Nat.le_refl _) _
     have HC5 := Aside0.mk (HC4.out.below hal)
     have HX5 := Aside0.mk ((hal.block _ (blk_lt HX4.out)).trans HX4.out)
     have HADD := Aside0.mk (add_any w w1.heap.size w.heap.size (fun k => k = w1.heap.size ∨ k = w.heap.size) (.inl rfl) (Nat.le_of_lt HLT.out) (.inr rfl) A cl l HC.out c (by have := fam_small c; omega) acc (by
       have h1 := congrArg List.length HA4.out
       have h2 := HTL.out
       rw [List.length_append] at h1
       omega) _ HX5.out (fun k hk => by
       rcases hk with hk | hk
       ·obtain ⟨v, h1, h2, h4⟩ := HC5.out
        exact hk ▸ blk_lt h1
       ·exact hk ▸ blk_lt HX5.out) HC5.out)
     have HA5 := Aside0.mk (show (acc ++ addF l c) ++ (capsO (k + 1)).flatMap (addF l) = T from by rw [← HA4.out, hcs, List.flatMap_cons, List.append_assoc])
     clear hal HC4 HX4 HA4 hcs HC5
     go_wp2_with fail
     refine HADD.out.mono ?_
     rintro e w4 ⟨rfl, hc4, hk4⟩
     have HC6 := Aside0.mk hc4
     have HK6 := Aside0.mk hk4
     clear hc4 hk4 HADD
     go_wp2
     go_roundg (6 - k)
     case measure => omega
     case rel => exact ⟨k + 1, acc ++ addF l c, by omega, by omega, rfl, HC6, ⟨(HK6.out _ (.inr rfl) hne).trans HX5.out⟩, HA5⟩
    ·have hk7 : k = 7 := by omega
     subst hk7
     have HA5 := Aside0.mk (show acc = T from (List.append_nil acc).symm.trans HA4.out)
     obtain ⟨v, h1, h2, h4⟩ := HC4.out
     have hT2 := HA5.out
     subst hT2
     obtain ⟨Av, cv, rfl⟩ := Kd.R_slice h2
     have hcellO : wr.cell? ⟨w1.heap.size, 0, none⟩ = some (.slice Av acc.length cv) := (blk_cell h1 0).trans rfl
     have HNC := Aside0.mk (HNT.out Av cv wr (by have := HTL.out; omega) (Kd.R_reads' h2).2.2 (Kd.R_reads' h2).2.1)
     have HB4 := Aside0.mk h4
     clear h1 h2 h4 HC4 HA4 HA5 HNT
     generalize acc.length = nn at *
     go_wp2_with fail
     refine HNC.out.mono ?_
     rintro e w5 ⟨v5, rfl, hR5, hb5⟩
     have HR5 := Aside0.mk hR5
     have HB5 := Aside0.mk hb5
     clear hR5 hb5 HNC
     go_wp2
     go_ret
     exact ⟨v5, rfl, Kd.R_lower HR5.out HB4.out.size, HB4.out.trans (HB5.out.mono HB4.out.size)⟩
end Go.Proofs.YtheheijhijeljaaGreatDoorX
namespace Go.Proofs.YtheheijhijeljaaGreatDoorX
open Go.RowKit Go.Proofs.YtheheijhijeljaaGreatDoorW.PrintWords Go.Proofs.YtheheijhijeljaaGreatDoorW.PrintLast Go.Proofs.YtheheijhijeljaaGreatDoorW.PrintMore
set_option linter.unusedVariables false
set_option linter.unusedSimpArgs false
/-! Masks of low bits, over whole numbers. -/
theorem wraps_i64 (n : Int) (h₀ : 0 ≤ n) (h₁ : n < 2 ^ 62) : IntKind.i64.wrap n = n := by rw [IntKind.wrap_i64]; omega
end Go.Proofs.YtheheijhijeljaaGreatDoorX
namespace Go.Proofs.YtheheijhijeljaaGreatDoorX
open Go.RowKit Go.Proofs.YtheheijhijeljaaGreatDoorW.PrintWords Go.Proofs.YtheheijhijeljaaGreatDoorW.PrintLast Go.Proofs.YtheheijhijeljaaGreatDoorW.PrintMore
set_option linter.unusedVariables false
set_option linter.unusedSimpArgs false
def widthF (r : Int) : Nat := if r < 0 ∨ r > 1114111 ∨ (55296 ≤ r ∧ r ≤ 57343) then 0 else if r ≤ 127 then 1 else if r ≤ 2047 then 2 else if r ≤ 65535 then 3 else 4
def leadV : Nat → Int
 | 2 => 192
 | 3 => 224
 | 4 => 240
 | _ => 0
theorem lead_any (n : Nat) (hn : 1 ≤ n ∧ n ≤ 4) (w : World) : Calls Tryz.prog 52 #[.int .i64 n] w fun e w' => e = .returned (.int .u8 (leadV n)) ∧ Below w.heap.size w w' := by
 have h := heap_alloc_last w (.cells #[.int .u8 0, .int .u8 0, .int .u8 192, .int .u8 224, .int .u8 240] 102)
 have c1 : (w.alloc (.cells #[.int .u8 0, .int .u8 0, .int .u8 192, .int .u8 224, .int .u8 240] 102)).cell? ⟨w.heap.size, n, none⟩ = some (.int .u8 (leadV n)) := by
  rw [blk_cell h n]
  have : n = 1 ∨ n = 2 ∨ n = 3 ∨ n = 4 := by omega
  rcases this with rfl | rfl | rfl | rfl <;> rfl
 have HB := Aside0.mk (show Below w.heap.size w (w.alloc (.cells #[.int .u8 0, .int .u8 0, .int .u8 192, .int .u8 224, .int .u8 240] 102)) from (Below.refl _ w).alloc (Nat.le_refl _) _)
 have hl : (n : Int) < 5 := by omega
 clear h hn
 go_enter Tryz.func52, Tryz.ntmps52
 go_wp2
 go_ret
 exact ⟨rfl, HB.out⟩
/-- The bytes of a rune of n bytes. -/
def encN (n : Nat) (r : Int) : List Int := (leadV n + r / 64 ^ (n - 1)) :: (List.range (n - 1)).map (fun i => 128 + r / 64 ^ (n - 2 - i) % 64)
end Go.Proofs.YtheheijhijeljaaGreatDoorX
namespace Go.Proofs.YtheheijhijeljaaGreatDoorX
open Go.RowKit Go.Proofs.YtheheijhijeljaaGreatDoorW.PrintWords Go.Proofs.YtheheijhijeljaaGreatDoorW.PrintLast Go.Proofs.YtheheijhijeljaaGreatDoorW.PrintMore
set_option linter.unusedVariables false
set_option linter.unusedSimpArgs false
theorem encN_len (n : Nat) (hn : 1 ≤ n) (r : Int) : (encN n r).length = n := by
 simp [encN]; omega
theorem width_le {n : Nat} {r : Int} (hw : widthF r = n) : (n = 1 → r ≤ 127) ∧ (n = 2 → r ≤ 2047) ∧ (n = 3 → r ≤ 65535) := by
 unfold widthF at hw
 repeat' split at hw
 all_goals omega
theorem width_in {r : Int} (h : widthF r ≠ 0) : (1 ≤ widthF r ∧ widthF r ≤ 4) ∧ 0 ≤ r ∧ r ≤ 1114111 := by
 unfold widthF at h ⊢
 repeat' split at h
 all_goals first | omega | (repeat' split) <;> omega
theorem encN_in {n : Nat} {r : Int} (hn : 1 ≤ n ∧ n ≤ 4) (hw : widthF r = n) (hr : 0 ≤ r ∧ r ≤ 1114111) : ∀ x ∈ encN n r, 0 ≤ x ∧ x ≤ 255 := by
 intro x hx
 unfold encN at hx
 rw [List.mem_cons] at hx
 rcases hx with rfl | hx
 ·have hl := width_le hw
  have hc : n = 1 ∨ n = 2 ∨ n = 3 ∨ n = 4 := by omega
  rcases hc with rfl | rfl | rfl | rfl
  ·have := hl.1 rfl
   simp [leadV]; omega
  ·have := hl.2.1 rfl
   simp [leadV]; omega
  ·have := hl.2.2 rfl
   simp [leadV]; omega
  ·simp [leadV]; omega
 ·obtain ⟨i, _, rfl⟩ := List.mem_map.1 hx
  generalize r / 64 ^ (n - 2 - i) = q
  omega
end Go.Proofs.YtheheijhijeljaaGreatDoorX
namespace Go.Proofs.YtheheijhijeljaaGreatDoorX
open Go.RowKit Go.Proofs.YtheheijhijeljaaGreatDoorW.PrintWords Go.Proofs.YtheheijhijeljaaGreatDoorW.PrintLast Go.Proofs.YtheheijhijeljaaGreatDoorW.PrintMore
set_option linter.unusedVariables false
set_option linter.unusedSimpArgs false
def byteI (s : ByteArray) (i : Nat) : Int := if h : i < s.size then (s[i]'h).toNat else 0
theorem byteI_in (s : ByteArray) (i : Nat) : 0 ≤ byteI s i ∧ byteI s i ≤ 255 := by
 unfold byteI
 split
 ·rename_i h
  have := (s[i]'h).toNat_lt
  omega
 ·omega
def bytesL (s : ByteArray) (n : Nat) : List Int := (List.range n).map (byteI s)
def Starts (s : ByteArray) (n : Nat) (r : Int) : Prop := n ≤ s.size ∧ bytesL s n = encN n r
theorem enc1 (r : Int) : encN 1 r = [r] := by simp [encN, leadV]
theorem enc2 (r : Int) : encN 2 r = [192 + r / 64, 128 + r % 64] := by simp [encN, leadV, List.range_succ]
theorem enc3 (r : Int) : encN 3 r = [224 + r / 4096, 128 + r / 64 % 64, 128 + r % 64] := by simp [encN, leadV, List.range_succ]
theorem enc4 (r : Int) : encN 4 r = [240 + r / 262144, 128 + r / 4096 % 64, 128 + r / 64 % 64, 128 + r % 64] := by simp [encN, leadV, List.range_succ]
theorem bytes1 (s : ByteArray) : bytesL s 1 = [byteI s 0] := by simp [bytesL]
theorem bytes2 (s : ByteArray) : bytesL s 2 = [byteI s 0, byteI s 1] := by simp [bytesL, List.range_succ]
theorem bytes3 (s : ByteArray) : bytesL s 3 = [byteI s 0, byteI s 1, byteI s 2] := by simp [bytesL, List.range_succ]
theorem bytes4 (s : ByteArray) : bytesL s 4 = [byteI s 0, byteI s 1, byteI s 2, byteI s 3] := by simp [bytesL, List.range_succ]
theorem widthF_eq {n : Nat} {r : Int} (h : widthF r = n) (hn : 1 ≤ n) : (n = 1 ∧ 0 ≤ r ∧ r ≤ 127) ∨ (n = 2 ∧ 128 ≤ r ∧ r ≤ 2047) ∨ (n = 3 ∧ 2048 ≤ r ∧ r ≤ 65535 ∧ ¬ (55296 ≤ r ∧ r ≤ 57343)) ∨ (n = 4 ∧ 65536 ≤ r ∧ r ≤ 1114111) := by
 unfold widthF at h
 repeat' split at h
 all_goals omega
end Go.Proofs.YtheheijhijeljaaGreatDoorX
namespace Go.Proofs.YtheheijhijeljaaGreatDoorX
open Go.RowKit Go.Proofs.YtheheijhijeljaaGreatDoorW.PrintWords Go.Proofs.YtheheijhijeljaaGreatDoorW.PrintLast Go.Proofs.YtheheijhijeljaaGreatDoorW.PrintMore
set_option linter.unusedVariables false
set_option linter.unusedSimpArgs false
def longV (b : Int) : Nat := if b ≤ 127 then 1 else if 194 ≤ b ∧ b < 224 then 2 else if 224 ≤ b ∧ b < 240 then 3 else if 240 ≤ b ∧ b < 245 then 4 else 0
def decL (s : ByteArray) (n : Nat) : Nat → Int → Nat → Int × Int
 | 0, x, _ => if widthF x = n then (x, (n : Int)) else (-1, 1)
 | d + 1, x, i => if 128 ≤ byteI s i ∧ byteI s i ≤ 191 then decL s n d (x * 64 + byteI s i % 64) (i + 1) else (-1, 1)
/-- The first rune, and how many bytes it has. -/
def decV (s : ByteArray) : Int × Int := if s.size = 0 then (-1, 0) else if longV (byteI s 0) = 0 ∨ s.size < longV (byteI s 0) then (-1, 1) else decL s (longV (byteI s 0)) (longV (byteI s 0) - 1) (byteI s 0 - leadV (longV (byteI s 0))) 1
theorem longV_le (b : Int) : longV b ≤ 4 := by unfold longV; repeat' split
                                               all_goals omega
theorem decV_starts {s : ByteArray} {n : Nat} {r : Int} (hr : widthF r = n) (hn : 1 ≤ n) (h : Starts s n r) : decV s = (r, (n : Int)) := by
 obtain ⟨hs, h⟩ := h
 unfold decV
 rw [if_neg (by omega)]
 rcases widthF_eq hr hn with ⟨rfl, h0⟩ | ⟨rfl, h0⟩ | ⟨rfl, h0⟩ | ⟨rfl, h0⟩
 ·simp only [enc1, bytes1, List.cons.injEq, and_true] at h
  have e : longV (byteI s 0) = 1 := by unfold longV; rw [if_pos (by omega)]
  rw [e, if_neg (by omega), h]
  show decL s 1 0 (r - 0) 1 = _
  rw [Int.sub_zero, decL, if_pos hr]
 ·simp only [enc2, bytes2, List.cons.injEq, and_true] at h
  have e : longV (byteI s 0) = 2 := by unfold longV; rw [if_neg (by omega), if_pos (by omega)]
  rw [e, if_neg (by omega)]
  show decL s 2 1 (byteI s 0 - 192) 1 = _
  rw [decL, if_pos (by omega), decL]
  have e2 : (byteI s 0 - 192) * 64 + byteI s 1 % 64 = r := by omega
  rw [e2, if_pos hr]
 ·simp only [enc3, bytes3, List.cons.injEq, and_true] at h
  have e : longV (byteI s 0) = 3 := by unfold longV; rw [if_neg (by omega), if_neg (by omega), if_pos (by omega)]
  rw [e, if_neg (by omega)]
  show decL s 3 2 (byteI s 0 - 224) 1 = _
  simp only [decL, Nat.reduceAdd]
  have e2 : ((byteI s 0 - 224) * 64 + byteI s 1 % 64) * 64 + byteI s 2 % 64 = r := by omega
  rw [if_pos (by omega), if_pos (by omega), e2, if_pos hr]
 ·simp only [enc4, bytes4, List.cons.injEq, and_true] at h
  have e : longV (byteI s 0) = 4 := by unfold longV; rw [if_neg (by omega), if_neg (by omega), if_neg (by omega), if_pos (by omega)]
  rw [e, if_neg (by omega)]
  show decL s 4 3 (byteI s 0 - 240) 1 = _
  simp only [decL, Nat.reduceAdd]
  have e2 : (((byteI s 0 - 240) * 64 + byteI s 1 % 64) * 64 + byteI s 2 % 64) * 64 + byteI s 3 % 64 = r := by omega
  rw [if_pos (by omega), if_pos (by omega), if_pos (by omega), e2, if_pos hr]
theorem decV_cases (s : ByteArray) : (s.size = 0 ∧ decV s = (-1, 0)) ∨ (s.size ≠ 0 ∧ decV s = (-1, 1) ∧ ∀ r, widthF r ≠ 0 → ¬ Starts s (widthF r) r) ∨ (∃ r, 1 ≤ widthF r ∧ Starts s (widthF r) r ∧ decV s = (r, (widthF r : Int))) := by
 by_cases h0 : s.size = 0
 ·exact .inl ⟨h0, by unfold decV; rw [if_pos h0]⟩
 by_cases hst : ∃ r, widthF r ≠ 0 ∧ Starts s (widthF r) r
 ·obtain ⟨r, h1, h2⟩ := hst
  exact .inr (.inr ⟨r, by omega, h2, decV_starts rfl (by omega) h2⟩)
 refine .inr (.inl ⟨h0, ?_, fun r h1 h2 => hst ⟨r, h1, h2⟩⟩)
 unfold decV
 rw [if_neg h0]
 by_cases h1 : longV (byteI s 0) = 0 ∨ s.size < longV (byteI s 0)
 ·rw [if_pos h1]
 rw [if_neg h1]
 have hn : longV (byteI s 0) ≤ s.size := by omega
 have hb := byteI_in s 0
 have key : ∀ r, ¬ (widthF r = longV (byteI s 0) ∧ bytesL s (longV (byteI s 0)) = encN (longV (byteI s 0)) r) := fun r h => hst ⟨r, by omega, by rw [h.1]; exact ⟨hn, h.2⟩⟩
 have hc : longV (byteI s 0) = 1 ∨ longV (byteI s 0) = 2 ∨ longV (byteI s 0) = 3 ∨ longV (byteI s 0) = 4 := by have := longV_le (byteI s 0); omega
 have hL : longV (byteI s 0) = if byteI s 0 ≤ 127 then 1 else if 194 ≤ byteI s 0 ∧ byteI s 0 < 224 then 2 else if 224 ≤ byteI s 0 ∧ byteI s 0 < 240 then 3 else if 240 ≤ byteI s 0 ∧ byteI s 0 < 245 then 4 else 0 := rfl
 generalize longV (byteI s 0) = n at *
 rcases hc with rfl | rfl | rfl | rfl
 ·show decL s 1 0 (byteI s 0 - 0) 1 = _
  rw [decL, if_neg]
  exact fun e => key (byteI s 0 - 0) ⟨e, by rw [enc1, bytes1, Int.sub_zero]⟩
 ·show decL s 2 1 (byteI s 0 - 192) 1 = _
  rw [decL]
  split
  ·rename_i g
   rw [decL, if_neg]
   refine fun e => key _ ⟨e, ?_⟩
   simp only [enc2, bytes2, List.cons.injEq, and_true]
   omega
  ·rfl
 ·show decL s 3 2 (byteI s 0 - 224) 1 = _
  rw [decL]
  split
  ·rename_i g
   rw [decL]
   split
   ·rename_i g2
    rw [decL, if_neg]
    refine fun e => key _ ⟨e, ?_⟩
    simp only [enc3, bytes3, List.cons.injEq, and_true]
    simp only [Nat.reduceAdd] at g2 ⊢
    omega
   ·rfl
  ·rfl
 ·show decL s 4 3 (byteI s 0 - 240) 1 = _
  rw [decL]
  split
  ·rename_i g
   rw [decL]
   split
   ·rename_i g2
    rw [decL]
    split
    ·rename_i g3
     rw [decL, if_neg]
     refine fun e => key _ ⟨e, ?_⟩
     simp only [enc4, bytes4, List.cons.injEq, and_true]
     simp only [Nat.reduceAdd] at g2 g3 ⊢
     omega
    ·rfl
   ·rfl
  ·rfl
/-! The bits of a byte. -/
theorem and192 : ∀ b : Fin 256, (bits .and .u8 ((b.val : Nat) : Int) 192 = 128) ↔ (128 ≤ b.val ∧ b.val ≤ 191) := by decide +kernel
theorem and63 : ∀ b : Fin 256, bits .and .u8 ((b.val : Nat) : Int) 63 = ((b.val % 64 : Nat) : Int) := by decide +kernel
theorem and192_iff {b : Int} (h : 0 ≤ b ∧ b ≤ 255) : (bits .and .u8 b 192 = 128) ↔ (128 ≤ b ∧ b ≤ 191) := by
 have := and192 ⟨b.toNat, by omega⟩
 simp only [show ((b.toNat : Nat) : Int) = b by omega] at this
 rw [this]
 omega
theorem and63_eq {b : Int} (h : 0 ≤ b ∧ b ≤ 255) : bits .and .u8 b 63 = b % 64 := by
 have := and63 ⟨b.toNat, by omega⟩
 simp only [show ((b.toNat : Nat) : Int) = b by omega] at this
 rw [this]
 omega
theorem xor1 : ∀ b : Fin 256, bits .xor .u8 ((b.val : Nat) : Int) 0 = (b.val : Int) := by decide +kernel
theorem xor2 : ∀ b : Fin 256, 192 ≤ b.val → b.val < 224 → bits .xor .u8 ((b.val : Nat) : Int) 192 = (b.val : Int) - 192 := by decide +kernel
theorem xor3 : ∀ b : Fin 256, 224 ≤ b.val → b.val < 240 → bits .xor .u8 ((b.val : Nat) : Int) 224 = (b.val : Int) - 224 := by decide +kernel
theorem xor4 : ∀ b : Fin 256, 240 ≤ b.val → b.val < 248 → bits .xor .u8 ((b.val : Nat) : Int) 240 = (b.val : Int) - 240 := by decide +kernel
theorem xor_lead {b : Int} (h : 0 ≤ b ∧ b ≤ 255) (h1 : longV b ≠ 0) : bits .xor .u8 b (leadV (longV b)) = b - leadV (longV b) ∧ 0 ≤ b - leadV (longV b) ∧ b - leadV (longV b) ≤ 127 := by
 have e : ((b.toNat : Nat) : Int) = b := by omega
 unfold longV at h1 ⊢
 split
 ·have := xor1 ⟨b.toNat, by omega⟩
  simp only [e] at this
  exact ⟨by show bits .xor .u8 b 0 = b - 0; rw [this]; omega, by show 0 ≤ b - 0; omega, by show b - 0 ≤ 127; omega⟩
 ·split
  ·have := xor2 ⟨b.toNat, by omega⟩ (by simp only; omega) (by simp only; omega)
   simp only [e] at this
   exact ⟨this, by show 0 ≤ b - 192; omega, by show b - 192 ≤ 127; omega⟩
  ·split
   ·have := xor3 ⟨b.toNat, by omega⟩ (by simp only; omega) (by simp only; omega)
    simp only [e] at this
    exact ⟨this, by show 0 ≤ b - 224; omega, by show b - 224 ≤ 127; omega⟩
   ·split
    ·have := xor4 ⟨b.toNat, by omega⟩ (by simp only; omega) (by simp only; omega)
     simp only [e] at this
     exact ⟨this, by show 0 ≤ b - 240; omega, by show b - 240 ≤ 127; omega⟩
    ·rename_i p q r t
     exact absurd (by rw [if_neg p, if_neg q, if_neg r, if_neg t]) h1
theorem bt_byteI (s : ByteArray) (i : Nat) : bt s (i : Int) = byteI s i := by unfold bt byteI; simp
theorem or_six {x m : Int} (h0 : 0 ≤ x) (h1 : x ≤ 1000000000) (h2 : 0 ≤ m) (h3 : m < 64) : bits .or .i64 (x * 64) m = x * 64 + m := bits_join .i64 62 (by decide) wraps_i64 6 (x * 64) m (by omega) (by omega) (by omega) h2 (by omega) (by omega)
/-- The number that so many bytes at the front would say. -/
def saidV (s : ByteArray) : Nat → Int
 | 1 => byteI s 0
 | 2 => byteI s 0 % 32 * 64 + byteI s 1 % 64
 | 3 => byteI s 0 % 16 * 4096 + byteI s 1 % 64 * 64 + byteI s 2 % 64
 | _ => byteI s 0 % 8 * 262144 + byteI s 1 % 64 * 4096 + byteI s 2 % 64 * 64 + byteI s 3 % 64
theorem said_starts {s : ByteArray} {n : Nat} {r : Int} (hr : widthF r = n) (hn : 1 ≤ n) (h : Starts s n r) : saidV s n = r := by
 obtain ⟨hs, h⟩ := h
 rcases widthF_eq hr hn with ⟨rfl, h0⟩ | ⟨rfl, h0⟩ | ⟨rfl, h0⟩ | ⟨rfl, h0⟩
 ·simp only [enc1, bytes1, List.cons.injEq, and_true] at h
  exact h
 ·simp only [enc2, bytes2, List.cons.injEq, and_true] at h
  simp only [saidV]
  omega
 ·simp only [enc3, bytes3, List.cons.injEq, and_true] at h
  simp only [saidV]
  omega
 ·simp only [enc4, bytes4, List.cons.injEq, and_true] at h
  simp only [saidV]
  omega
theorem nums_eq : ∀ {L : List Int} (h : ∀ x ∈ L, 0 ≤ x ∧ x ≤ 255) (T : List UInt8), (L.map fun n => UInt8.ofNat n.toNat) = T ↔ L = T.map fun b => ((b.toNat : Nat) : Int)
 | [], _, T => by cases T <;> simp
 | x :: L, h, [] => by simp
 | x :: L, h, b :: T => by
  have hx := h x (by simp)
  rw [List.map_cons, List.map_cons, List.cons.injEq, List.cons.injEq, nums_eq (fun y hy => h y (by simp [hy])) T]
  refine and_congr_left fun _ => ⟨fun e => ?_, fun e => ?_⟩
  ·subst e
   rw [UInt8.toNat_ofNat']
   omega
  ·subst e
   simp
theorem bytesL_eq {s : ByteArray} {n : Nat} (h : n ≤ s.size) : bytesL s n = (s.data.toList.take n).map fun b => ((b.toNat : Nat) : Int) := by
 have hl : s.data.toList.length = s.size := by rw [Array.length_toList]; rfl
 apply List.ext_getElem (by simp [bytesL]; omega)
 intro k h1 h2
 have hk : k < n := by simpa [bytesL] using h1
 have hk2 : k < s.size := by omega
 simp only [bytesL, List.getElem_map, List.getElem_range, List.getElem_take]
 unfold byteI
 rw [dif_pos hk2]
 rfl
theorem starts_text {s : ByteArray} {n : Nat} {r : Int} (hr : widthF r ≠ 0) (hs : n ≤ s.size) : (strOfNums (encN (widthF r) r)).toList = (s.extract 0 n).toList ↔ widthF r = n ∧ Starts s n r := by
 have hri := width_in hr
 have hin := encN_in hri.1 rfl hri.2
 have hl : s.data.toList.length = s.size := by rw [Array.length_toList]; rfl
 rw [ByteArray.toList_eq, ByteArray.toList_eq]
 have e1 : (strOfNums (encN (widthF r) r)).data.toList = (encN (widthF r) r).map fun n => UInt8.ofNat n.toNat := rfl
 have e2 : (s.extract 0 n).data.toList = s.data.toList.take n := by
  rw [ByteArray.data_extract]
  simp [List.extract_eq_take_drop]
 rw [e1, e2, nums_eq hin, ← bytesL_eq hs]
 constructor
 ·intro h
  have hw : widthF r = n := by
   have := congrArg List.length h
   rw [encN_len _ hri.1.1] at this
   simpa [bytesL] using this
  exact ⟨hw, hs, by rw [← h, hw]⟩
 ·rintro ⟨rfl, _, h⟩
  exact h.symm
end Go.Proofs.YtheheijhijeljaaGreatDoorX
namespace Go.Proofs.YtheheijhijeljaaGreatDoorX
open Go.RowKit Go.Proofs.YtheheijhijeljaaGreatDoorW.PrintWords Go.Proofs.YtheheijhijeljaaGreatDoorW.PrintLast Go.Proofs.YtheheijhijeljaaGreatDoorW.PrintMore
set_option linter.unusedVariables false
set_option linter.unusedSimpArgs false
set_option maxRecDepth 100000 in
set_option maxHeartbeats 2000000 in
/-- Bracket's inner function: a row more behind what was collected. -/
theorem put_any (w : World) (O : Nat) (hwO : w.heap.size ≤ O) (A : Option Addr) (c : Nat) (xs acc : List (Int × Int)) (hl : acc.length + xs.length ≤ 1000000) (W : World)
  (hx : Kd.C kRg W A xs.length xs) (hc : Col2 w O (fun k => k = O) W acc) :
  Calls Tryz.prog 35 #[.slice A xs.length c, .pointer (some ⟨O, 0, none⟩)] W fun e w' => e = .returned (.tuple #[]) ∧ Col2 w O (fun k => k = O) w' (acc ++ xs) := by
 obtain ⟨v, h1, h2, h4⟩ := hc
 have hcO : W.cell? ⟨O, 0, none⟩ = some v := (blk_cell h1 0).trans rfl
 have hfO := blk_frozen h1 0
 have hOw : O < W.heap.size := blk_lt h1
 have hOne : O ≠ W.heap.size := by omega
 obtain ⟨n, hn⟩ : ∃ n, n = xs.length := ⟨_, rfl⟩
 have hx' : Kd.C kRg W A n xs := by rw [hn]; exact hx
 rw [← hn] at hl ⊢
 have HN := Aside0.mk hn
 have HL := Aside0.mk hl
 clear hl
 have HX := Aside0.mk hx'
 have H1 := Aside0.mk h1
 have H2 := Aside0.mk h2
 have H4 := Aside0.mk h4
 clear h1 h2 h4 hx hx' hn
 go_enter Tryz.func35, Tryz.ntmps35
 go_wp2_with (at_builtin; refine Kd.R_append_rows kRg (Rr := kRg.K W) (w0 := w) w.heap.size rfl (.tmp 3) (.tmp 4) 26 36 (.agg #[(.int .i64 0), (.int .i64 0)]) 16 rfl Tryz.underlying26 info_rg rfl (by decide) (by omega) v acc xs A n _ (fun k => ¬ k = O) (fun _ => False) rfl rfl ?aO ?aR (fun x cs h => by rw [kRg_K h]; exact kRg_fixed.make _ _ _ x) (fun _ h => h.elim) ?aF ?aB ?aS ?aL ?_; (case aO => exact H2.out); (case aR => exact HX.out); (case aF => exact fun k hk he => by omega); (case aB => exact H4.out); (case aS => exact H4.out.size); (case aL => have := HL.out; omega); intro v1 w3 ho hb hg hat; have hnv : some O ≠ v.ownBlock := (fun e => H2.out.1 O e.symm rfl); have hb1 : w3.heap[O]? = some (.cells #[v] 26 (0, 0)) := (hg.block O hOw hnv).trans H1.out; have hcell1 : w3.cell? ⟨O, 0, none⟩ = some v := (blk_cell hb1 0).trans rfl; have hfr1 : w3.frozen? ⟨O, 0, none⟩ = false := blk_frozen hb1 0; have HO := Aside0.mk ho; have HG := Aside0.mk hg; have HXX := Aside0.mk hb1; obtain ⟨A1, c3, e1⟩ := Kd.R_slice ho; rw [List.length_append] at e1; subst e1; clear ho hb hg hat hnv hb1)
 go_end0
 refine ⟨rfl, ⟨_, blk_put HXX.out 0 _ rfl, ?_, ?_⟩⟩
 ·exact Kd.R_mono (Kd.R_far (Kd.R_bound HO.out) (p := ⟨O, 0, none⟩) (fun k hk => show k ≠ O from hk.1) (.slice A1 (acc.length + xs.length) c3)) (fun _ hk => hk.1)
 ·exact (H4.out.grown HG.out H4.out.size (fun k hk => by have := (Kd.R_bound H2.out).1 k hk; omega)).setCell (p := ⟨O, 0, none⟩) hwO _
end Go.Proofs.YtheheijhijeljaaGreatDoorX
/-! ### 50. A region's order in a table, made once a region: each step asks the table (numbers alone), not the operations -/
namespace Go.Proofs.YtheheijhijeljaaGreatDoorW.PrintLast
open Go.Proofs.YtheheijhijeljaaGreatDoorW.PrintWords (Aside0)
def needsOf (md : Region.Mode) (o : Oper) : List Nat := (o.after.toList.filter (fun e => Region.binds md e)).map (fun e => e.on)
def clashOf (md : Region.Mode) (ops : Array Oper) (i : Nat) (oi : Oper) : List Nat := (List.range ops.size).filter fun j => !(j == i) && match ops[j]? with
 | some oj => !(oj.after.any (fun e => Region.binds md e && e.on == i) || oi.apart ops oj)
 | none => false
/-- No select in it; for each operation: what must have come up before it, and what may not come up behind it if it is taken first. -/
def rtab (md : Region.Mode) (ops : Array Oper) : Bool × List (List Nat × List Nat) := (Region.noSelect ops, (List.range ops.size).map fun i => match ops[i]? with
 | some o => (needsOf md o, clashOf md ops i o)
 | none => ([], []))
def readyAt (T : List (List Nat × List Nat)) (l : List Bool) (i : Nat) : Bool := !l.getD i true && match T[i]? with
 | some r => r.1.all (fun j => l.getD j false)
 | none => false
def readyT (T : List (List Nat × List Nat)) (l : List Bool) : List Nat := (List.range T.length).filter (readyAt T l)
def freeT (T : List (List Nat × List Nat)) (l : List Bool) (i : Nat) : Bool := match T[i]? with
 | some r => r.2.all (fun j => l.getD j true)
 | none => false
def closedT (T : List (List Nat × List Nat)) (l : List Bool) : Bool := (List.range T.length).all fun j => !l.getD j false || match T[j]? with
 | some r => r.1.all (fun k => l.getD k false)
 | none => true
def reachT (T : List (List Nat × List Nat)) (i : Nat) : Nat → Nat → Bool
 | 0, _ => false
 | fuel + 1, d => match T[d]? with
  | some r => r.1.any fun j => j == i || reachT T i fuel j
  | none => false
def lastT (T : List (List Nat × List Nat)) (l : List Bool) (ds : List Nat) (i : Nat) : Bool := ds.all fun d => l.getD d true || reachT T i T.length d
section
variable {md : Region.Mode} {ops : Array Oper} {T : Bool × List (List Nat × List Nat)} {l l' li lj lk : Array Bool} {ds : List Nat} {i j k : Nat}
theorem gd (l : Array Bool) (j : Nat) (b : Bool) : l.getD j b = l.toList.getD j b := by simp [Array.getD_eq_getD_getElem?, List.getD_eq_getElem?_getD]
theorem needs_all (o : Oper) (p : Nat → Bool) : o.after.all (fun e => !Region.binds md e || p e.on) = (needsOf md o).all p := by
 unfold needsOf
 rw [← Array.all_toList]
 induction o.after.toList with
 | nil => rfl
 | cons e r ih =>
  rw [List.all_cons, ih, List.filter_cons]
  cases h : Region.binds md e <;> simp
theorem needs_any (o : Oper) (p : Nat → Bool) : o.after.any (fun e => Region.binds md e && p e.on) = (needsOf md o).any p := by
 unfold needsOf
 rw [← Array.any_toList]
 induction o.after.toList with
 | nil => rfl
 | cons e r ih =>
  rw [List.any_cons, ih, List.filter_cons]
  cases h : Region.binds md e <;> simp
theorem rtab_length : (rtab md ops).2.length = ops.size := by simp [rtab]
theorem rtab_some {o : Oper} (h : ops[i]? = some o) : (rtab md ops).2[i]? = some (needsOf md o, clashOf md ops i o) := by
 have hi := (Array.getElem?_eq_some_iff.1 h).1
 unfold rtab
 rw [List.getElem?_map, List.getElem?_range hi, Option.map_some, h]
theorem rtab_none (h : ops[i]? = none) : (rtab md ops).2[i]? = none := by
 have hi : ops.size ≤ i := Array.getElem?_eq_none_iff.1 h
 exact List.getElem?_eq_none (by rw [rtab_length]; exact hi)
theorem readyAt_eq : readyAt (rtab md ops).2 l.toList i = (!l.getD i true && ((ops[i]?).map (·.after.all fun e => !Region.binds md e || l.getD e.on false)).getD false) := by
 unfold readyAt
 rw [gd]
 cases h : ops[i]? with
 | none => rw [rtab_none h]; rfl
 | some o =>
  rw [rtab_some h]
  simp only [Option.map_some, Option.getD_some]
  rw [← needs_all]
  simp only [gd]
theorem ready_eq : Region.ready md ops l = readyT (rtab md ops).2 l.toList := by
 unfold Region.ready readyT
 rw [rtab_length]
 refine List.filter_congr (fun i _ => ?_)
 rw [readyAt_eq]
theorem free_eq : Region.free md ops l i = freeT (rtab md ops).2 l.toList i := by
 unfold Region.free freeT
 cases h : ops[i]? with
 | none => rw [rtab_none h]
 | some oi =>
  rw [rtab_some h]
  simp only [clashOf]
  rw [List.all_filter]
  congr 1
  funext j
  rw [gd]
  cases hj : ops[j]? with
  | none => cases (j == i) <;> cases (l.toList.getD j true) <;> simp
  | some oj =>
   cases (j == i) <;> cases (l.toList.getD j true) <;> cases (oj.after.any (fun e => Region.binds md e && e.on == i) || oi.apart ops oj) <;> simp_all
theorem closed_eq : Region.closedB md ops l = closedT (rtab md ops).2 l.toList := by
 unfold Region.closedB closedT
 rw [rtab_length]
 congr 1
 funext j
 rw [gd]
 cases h : ops[j]? with
 | none => rw [rtab_none h]
 | some o =>
  rw [rtab_some h]
  simp only
  rw [← needs_all]
  simp only [gd]
theorem reach_eq : ∀ (fuel d : Nat), Region.reachB md ops i fuel d = reachT (rtab md ops).2 i fuel d
 | 0, _ => rfl
 | fuel + 1, d => by
  unfold Region.reachB reachT
  cases h : ops[d]? with
  | none => rw [rtab_none h]
  | some o =>
   rw [rtab_some h]
   simp only
   rw [← needs_any]
   congr 1
   funext e
   rw [reach_eq fuel]
theorem last_eq : Region.lastB md ops l ds i = lastT (rtab md ops).2 l.toList ds i := by
 unfold Region.lastB lastT
 rw [rtab_length]
 congr 1
 funext d
 rw [gd, reach_eq]
theorem readyAt_mem (h : readyAt T.2 l.toList i = true) (hT : rtab md ops = T) : (Region.ready md ops l).contains i = true := by
 subst hT
 rw [ready_eq]
 unfold readyT
 rw [List.contains_iff_mem, List.mem_filter, List.mem_range]
 refine ⟨?_, h⟩
 unfold readyAt at h
 rw [Bool.and_eq_true] at h
 cases hq : (rtab md ops).2[i]? with
 | none => rw [hq] at h; simp at h
 | some r => exact (List.getElem?_eq_some_iff.1 hq).1
theorem set_of (h : (l.toList.set i true == l'.toList) = true) : (l.setIfInBounds i true == l') = true := by
 rw [beq_iff_eq] at h ⊢
 apply Array.ext'
 rw [Array.toList_setIfInBounds]
 exact h
def anyT (T : Bool × List (List Nat × List Nat)) (l l' : List Bool) (i : Nat) : Bool := T.1 && freeT T.2 l i && readyAt T.2 l i && (l.set i true == l')
/-- pure_'s condition out of the table. -/
theorem any_of (hT : rtab md ops = T) (h : anyT T l.toList l'.toList i = true) : anyB md ops l l' i = true := by
 simp only [anyT, Bool.and_eq_true] at h
 obtain ⟨⟨⟨h1, h2⟩, h3⟩, h4⟩ := h
 have h5 := readyAt_mem h3 hT
 have h6 := set_of h4
 subst hT
 simp only [anyB, Bool.and_eq_true]
 exact ⟨⟨⟨h1, by rw [free_eq]; exact h2⟩, h5⟩, h6⟩
def takeT (T : Bool × List (List Nat × List Nat)) (ds : List Nat) (l l' : List Bool) (i : Nat) : Bool := T.1 && freeT T.2 l i && readyAt T.2 l i && closedT T.2 l && lastT T.2 l ds i && (l.set i true == l')
/-- take_'s. -/
theorem take_of (hT : rtab md ops = T) (h : takeT T ds l.toList l'.toList i = true) : takeB md ops ds l l' i = true := by
 simp only [takeT, Bool.and_eq_true] at h
 obtain ⟨⟨⟨⟨⟨h1, h2⟩, h3⟩, h4⟩, h5⟩, h6⟩ := h
 have h7 := readyAt_mem h3 hT
 have h8 := set_of h6
 subst hT
 simp only [takeB, Bool.and_eq_true]
 exact ⟨⟨⟨⟨⟨h1, by rw [free_eq]; exact h2⟩, h7⟩, by rw [closed_eq]; exact h4⟩, by rw [last_eq]; exact h5⟩, h8⟩
/-- one_'s and last_'s. -/
theorem one_of (hT : rtab md ops = T) (h : (readyT T.2 l.toList == [i] && l.toList.set i true == l'.toList) = true) : readyB md ops l l' i = true := by
 simp only [Bool.and_eq_true] at h
 obtain ⟨h1, h2⟩ := h
 subst hT
 simp only [readyB, Bool.and_eq_true]
 exact ⟨by rw [ready_eq]; exact h1, set_of h2⟩
theorem two_of (hT : rtab md ops = T) (h : (readyT T.2 l.toList == [i, j] && l.toList.set i true == li.toList && l.toList.set j true == lj.toList) = true) : (Region.ready md ops l == [i, j] && l.setIfInBounds i true == li && l.setIfInBounds j true == lj) = true := by
 simp only [Bool.and_eq_true] at h ⊢
 obtain ⟨⟨h1, h2⟩, h3⟩ := h
 subst hT
 exact ⟨⟨by rw [ready_eq]; exact h1, set_of h2⟩, set_of h3⟩
/-- done_'s. -/
theorem done_of (hT : rtab md ops = T) (h : (readyT T.2 l.toList == []) = true) : (Region.ready md ops l == []) = true := by
 subst hT
 rw [ready_eq]
 exact h
/-- What d waits for, as_ bits: told in the table (B), checked in one pass: each bit is a need of d, or a bit of an earlier need's. -/
def upM (B : List Nat) (d : Nat) : List Nat → Nat
 | [] => 0
 | n :: r => (2 ^ n ||| (if n < d then B.getD n 0 else 0)) ||| upM B d r
def waitsOk (T : List (List Nat × List Nat)) (B : List Nat) : Bool := (List.range T.length).all fun d => match T[d]? with
 | some r => (B.getD d 0 ||| upM B d r.1) == upM B d r.1
 | none => false
theorem upM_bit {B : List Nat} {d i : Nat} : ∀ {ns : List Nat}, (upM B d ns).testBit i = true → ∃ n ∈ ns, n = i ∨ (n < d ∧ (B.getD n 0).testBit i = true)
 | [], h => by simp [upM] at h
 | n :: r, h => by
  unfold upM at h
  rw [Nat.testBit_or, Nat.testBit_or, Bool.or_eq_true, Bool.or_eq_true] at h
  rcases h with (h | h) | h
  ·rw [Nat.testBit_two_pow] at h
   exact ⟨n, List.mem_cons_self, .inl (by simpa using h)⟩
  ·by_cases hn : n < d
   ·rw [if_pos hn] at h
    exact ⟨n, List.mem_cons_self, .inr ⟨hn, h⟩⟩
   ·rw [if_neg hn] at h
    simp at h
  ·obtain ⟨m, hm, h2⟩ := upM_bit h
   exact ⟨m, List.mem_cons_of_mem _ hm, h2⟩
theorem reach_bit {T : List (List Nat × List Nat)} {B : List Nat} (hB : waitsOk T B = true) : ∀ (fuel d : Nat), d < fuel → d < T.length → (B.getD d 0).testBit i = true → reachT T i fuel d = true
 | 0, d, h, _, _ => by omega
 | fuel + 1, d, h, hd, hb => by
  have h1 := List.all_eq_true.1 hB d (List.mem_range.2 hd)
  cases hr : T[d]? with
  | none => rw [hr] at h1; simp at h1
  | some r =>
   rw [hr] at h1
   simp only [beq_iff_eq] at h1
   have h2 : (upM B d r.1).testBit i = true := by rw [← h1, Nat.testBit_or, hb, Bool.true_or]
   obtain ⟨n, hn, h3⟩ := upM_bit h2
   unfold reachT
   rw [hr]
   simp only
   rw [List.any_eq_true]
   refine ⟨n, hn, ?_⟩
   rcases h3 with rfl | ⟨h4, h5⟩
   ·simp
   ·rw [reach_bit hB fuel n (by omega) (by omega) h5, Bool.or_true]
def lastW (T : List (List Nat × List Nat)) (B : List Nat) (l : List Bool) (ds : List Nat) (i : Nat) : Bool := ds.all fun d => l.getD d true || (decide (d < T.length) && (B.getD d 0).testBit i)
def takeW (T : Bool × List (List Nat × List Nat)) (B : List Nat) (ds : List Nat) (l l' : List Bool) (i : Nat) : Bool := T.1 && freeT T.2 l i && readyAt T.2 l i && closedT T.2 l && lastW T.2 B l ds i && (l.set i true == l')
/-- take_'s, by the bits. -/
theorem take_ofW {B : List Nat} (hT : rtab md ops = T) (hB : waitsOk T.2 B = true) (h : takeW T B ds l.toList l'.toList i = true) : takeB md ops ds l l' i = true := by
 refine take_of hT ?_
 simp only [takeW, takeT, Bool.and_eq_true] at h ⊢
 obtain ⟨⟨⟨⟨⟨h1, h2⟩, h3⟩, h4⟩, h5⟩, h6⟩ := h
 refine ⟨⟨⟨⟨⟨h1, h2⟩, h3⟩, h4⟩, ?_⟩, h6⟩
 unfold lastW at h5
 unfold lastT
 rw [List.all_eq_true] at h5 ⊢
 intro d hd
 have h7 := h5 d hd
 rw [Bool.or_eq_true, Bool.and_eq_true, decide_eq_true_eq] at h7
 rcases h7 with h7 | ⟨h8, h9⟩
 ·rw [h7, Bool.true_or]
 ·rw [reach_bit hB _ d h8 h8 h9, Bool.or_true]
theorem with_tabW {P : Program} {Q : Exit → Act → World → Prop} {S : World → Prop} {n : Nat} {a : Act} {w : World} {B : List Nat} (hT : rtab md ops = T) (hB : waitsOk T.2 B = true) (h : Aside0 (rtab md ops = T) → Aside0 (waitsOk T.2 B = true) → wpAnyLast P md ops Q S ds n l a w) : wpAnyLast P md ops Q S ds n l a w := h ⟨hT⟩ ⟨hB⟩
end
/-- The operations of a region, by its number. -/
def opsIn : Code → Nat → Option (Array Oper)
 | .region id ops _, k => if id == k then some ops else none
 | .seq a b, k => match opsIn a k with
  | some o => some o
  | none => opsIn b k
 | .cond _ a b, k => match opsIn a k with
  | some o => some o
  | none => opsIn b k
 | .block _ c, k => opsIn c k
 | .loop c, k => opsIn c k
 | .scope c, k => opsIn c k
 | .rangeFunc _ _ a b, k => match opsIn a k with
  | some o => some o
  | none => opsIn b k
 | _, _ => none
def opsOf (f : Func) (k : Nat) : Array Oper := ((f.body.bind fun c => opsIn c k)).getD #[]
end Go.Proofs.YtheheijhijeljaaGreatDoorW.PrintLast
/-! ### 53. '==' of structs as_ one Bool -/
namespace Go.Proofs.YtheheijhijeljaaGreatDoorW.PrintWords
open Go.RowKit
section
variable {P : Program} {d : Nat} {xs ys : Array Value} {f : Field} {fs : List Field} {a b : Value} {r s : Bool} {w : World}
/-- The last field that counts. -/
theorem eqf_last (hn : (f.name == "_") = false) (ha : (part f.type xs f.offset).run P w = .ok a w) (hb : (part f.type ys f.offset).run P w = .ok b w) (he : (Op.equalIn d f.type a b).run P w = .ok r w) : (Op.eqFields d xs ys [f]).run P w = .ok r w := by
 have hn' : f.name ≠ "_" := by simpa using hn
 simp only [Op.eqFields, if_pos hn', Sem.run_bind, ha, hb, he, Result.andThen_ok]
 cases r <;> simp
theorem eqf_cons (hn : (f.name == "_") = false) (ha : (part f.type xs f.offset).run P w = .ok a w) (hb : (part f.type ys f.offset).run P w = .ok b w) (he : (Op.equalIn d f.type a b).run P w = .ok r w) (hr : (Op.eqFields d xs ys fs).run P w = .ok s w) : (Op.eqFields d xs ys (f :: fs)).run P w = .ok (r && s) w := by
 have hn' : f.name ≠ "_" := by simpa using hn
 rw [Op.eqFields]
 simp only [if_pos hn', Sem.run_bind, ha, hb, he, Result.andThen_ok]
 cases r
 ·simp
 ·simpa using hr
theorem eqA_of {t : TypeId} {fs : Array Field} (hu : P.underlying t = some (.struct fs)) (hp : P.stoodInHeld t = false) (h : (Op.eqFields d xs ys fs.toList).run P w = .ok r w) : (Op.equalIn (d + 1) t (.agg xs) (.agg ys)).run P w = .ok r w := by
 have hf : P.fieldsOf t = fs := by simp [Program.fieldsOf, hu]
 rw [run_equalIn_struct (P := P) w d t xs ys (by rw [hf]; exact hu) hp, hf]
 exact h
end
end Go.Proofs.YtheheijhijeljaaGreatDoorW.PrintWords
/-! ### 55. Reps told from the front, no append: for rows of one-cell elements and of wider ones -/
namespace Go.Proofs.YtheheijhijeljaaGreatDoorW.PrintWords
/-- One cell an element. -/
theorem Reps.one {α : Type} {R : α → List Value → Prop} {ps : List α} {cs : List Value} {p : α} {v : Value} (hp : R p [v]) (h : Reps R 1 ps cs) : Reps R 1 (p :: ps) (v :: cs) := by
 refine ⟨by simp [h.1], fun j q hq => ?_⟩
 cases j with
 | zero =>
  simp only [List.getElem?_cons_zero, Option.some.injEq] at hq
  subst hq
  simpa using hp
 | succ j =>
  simp only [List.getElem?_cons_succ] at hq
  have h1 := h.2 j q hq
  simpa [Nat.mul_one] using h1
/-- More cells an element: told apart by the cells' list. -/
theorem Reps.front {α : Type} {R : α → List Value → Prop} {size : Nat} {ps : List α} {cs c all : List Value} {p : α} (hp : R p c) (hc : c.length = size) (h : Reps R size ps cs) (ha : c ++ cs = all) : Reps R size (p :: ps) all := by
 subst ha
 refine ⟨by rw [List.length_append, hc, h.1, List.length_cons, Nat.succ_mul, Nat.add_comm], fun j q hq => ?_⟩
 cases j with
 | zero =>
  simp only [List.getElem?_cons_zero, Option.some.injEq] at hq
  subst hq
  rw [Nat.zero_mul, List.drop_zero, List.take_append_of_le_length (by omega), List.take_of_length_le (by omega)]
  exact hp
 | succ j =>
  simp only [List.getElem?_cons_succ] at hq
  have h1 := h.2 j q hq
  rw [Nat.succ_mul, List.drop_append, List.drop_of_length_le (by rw [hc]; exact Nat.le_add_left _ _), List.nil_append, hc, Nat.add_sub_cancel]
  exact h1
theorem Reps.c2 {α : Type} {R : α → List Value → Prop} {ps : List α} {cs : List Value} {p : α} {va vb : Value} (hp : R p [va, vb]) (h : Reps R 2 ps cs) : Reps R 2 (p :: ps) (va :: vb :: cs) := Reps.front hp rfl h rfl
theorem Reps.c3 {α : Type} {R : α → List Value → Prop} {ps : List α} {cs : List Value} {p : α} {va vb vc : Value} (hp : R p [va, vb, vc]) (h : Reps R 3 ps cs) : Reps R 3 (p :: ps) (va :: vb :: vc :: cs) := Reps.front hp rfl h rfl
theorem Reps.c4 {α : Type} {R : α → List Value → Prop} {ps : List α} {cs : List Value} {p : α} {va vb vc vd : Value} (hp : R p [va, vb, vc, vd]) (h : Reps R 4 ps cs) : Reps R 4 (p :: ps) (va :: vb :: vc :: vd :: cs) := Reps.front hp rfl h rfl
theorem Reps.c5 {α : Type} {R : α → List Value → Prop} {ps : List α} {cs : List Value} {p : α} {va vb vc vd ve : Value} (hp : R p [va, vb, vc, vd, ve]) (h : Reps R 5 ps cs) : Reps R 5 (p :: ps) (va :: vb :: vc :: vd :: ve :: cs) := Reps.front hp rfl h rfl
theorem Reps.c6 {α : Type} {R : α → List Value → Prop} {ps : List α} {cs : List Value} {p : α} {va vb vc vd ve vf : Value} (hp : R p [va, vb, vc, vd, ve, vf]) (h : Reps R 6 ps cs) : Reps R 6 (p :: ps) (va :: vb :: vc :: vd :: ve :: vf :: cs) := Reps.front hp rfl h rfl
theorem Reps.c7 {α : Type} {R : α → List Value → Prop} {ps : List α} {cs : List Value} {p : α} {va vb vc vd ve vf vg : Value} (hp : R p [va, vb, vc, vd, ve, vf, vg]) (h : Reps R 7 ps cs) : Reps R 7 (p :: ps) (va :: vb :: vc :: vd :: ve :: vf :: vg :: cs) := Reps.front hp rfl h rfl
theorem Reps.c8 {α : Type} {R : α → List Value → Prop} {ps : List α} {cs : List Value} {p : α} {va vb vc vd ve vf vg vh : Value} (hp : R p [va, vb, vc, vd, ve, vf, vg, vh]) (h : Reps R 8 ps cs) : Reps R 8 (p :: ps) (va :: vb :: vc :: vd :: ve :: vf :: vg :: vh :: cs) := Reps.front hp rfl h rfl
theorem Reps.c9 {α : Type} {R : α → List Value → Prop} {ps : List α} {cs : List Value} {p : α} {va vb vc vd ve vf vg vh vi : Value} (hp : R p [va, vb, vc, vd, ve, vf, vg, vh, vi]) (h : Reps R 9 ps cs) : Reps R 9 (p :: ps) (va :: vb :: vc :: vd :: ve :: vf :: vg :: vh :: vi :: cs) := Reps.front hp rfl h rfl
theorem Reps.c10 {α : Type} {R : α → List Value → Prop} {ps : List α} {cs : List Value} {p : α} {va vb vc vd ve vf vg vh vi vj : Value} (hp : R p [va, vb, vc, vd, ve, vf, vg, vh, vi, vj]) (h : Reps R 10 ps cs) : Reps R 10 (p :: ps) (va :: vb :: vc :: vd :: ve :: vf :: vg :: vh :: vi :: vj :: cs) := Reps.front hp rfl h rfl
end Go.Proofs.YtheheijhijeljaaGreatDoorW.PrintWords
/-! ### 57. A region of open order by ONE relation over what is listed so far: each operation is shown once, whatever came up before it -/
namespace Go.Proofs.YtheheijhijeljaaGreatDoorW.PrintLast
/-- Number i is listed too. -/
def up (b : Nat → Bool) (i : Nat) : Nat → Bool := fun j => if j = i then true else b j
section
variable {P : Program} {ops : Array Oper} {Q : Exit → Act → World → Prop} {md : Region.Mode} {T : Bool × List (List Nat × List Nat)} {B : List Nat} {O : List Nat} {b : Nat → Bool} {i j n : Nat}
/-! The frame: what is listed has its destination filled. -/
end
end Go.Proofs.YtheheijhijeljaaGreatDoorW.PrintLast
/-! ### 58. A guarded operation whose guard is known to want it: the same goal without the guard -/
namespace Go.Proofs.YtheheijhijeljaaGreatDoorW.PrintWords
open Go.RowKit
section
variable {P : Program} {ops : Array Oper} {rest : List Oper} {o : Oper} {a : Act} {Q : Exit → Act → World → Prop} {W : World}
/-- The gate takes the guard off (hw: 'by rfl', 'by kernel_rfl': the guard's slot holds what is wanted). -/
theorem gate_guard (hw : Region.wanted o (yielded ops a.tmps) = true) (h : wpList P ops Q ({ o with guard := none } :: rest) a W) : wpList P ops Q (o :: rest) a W := by
 have h1 : Region.wanted { o with guard := none } (yielded ops a.tmps) = true := rfl
 unfold wpList at h ⊢
 rw [if_pos h1] at h
 rw [if_pos hw]
 exact h
end
end Go.Proofs.YtheheijhijeljaaGreatDoorW.PrintWords
namespace Go.Proofs.YtheheijhijeljaaGreatDoorX
set_option linter.unusedVariables false
/-! What fold's families are, over plain numbers. -/
def ins (x : Int) : List Int → List Int
 | [] => [x]
 | y :: t => if x ≤ y then x :: y :: t else y :: ins x t
def isort : List Int → List Int
 | [] => []
 | x :: t => ins x (isort t)
theorem ins_perm (x : Int) : ∀ l, (ins x l).Perm (x :: l)
 | [] => List.Perm.refl _
 | y :: t => by
  unfold ins
  split
  ·exact List.Perm.refl _
  ·exact ((ins_perm x t).cons y).trans (List.Perm.swap x y t)
theorem isort_perm : ∀ l, (isort l).Perm l
 | [] => List.Perm.refl _
 | x :: t => (ins_perm x _).trans ((isort_perm t).cons x)
theorem ins_sorted (x : Int) : ∀ l : List Int, l.Pairwise (· ≤ ·) → (ins x l).Pairwise (· ≤ ·)
 | [], _ => by simp [ins]
 | y :: t, h => by
  unfold ins
  rw [List.pairwise_cons] at h
  split
  ·rename_i hxy
   rw [List.pairwise_cons, List.pairwise_cons]
   refine ⟨fun a ha => ?_, h⟩
   rcases List.mem_cons.1 ha with rfl | ha
   ·exact hxy
   ·have := h.1 a ha; omega
  ·rename_i hxy
   rw [List.pairwise_cons]
   refine ⟨fun a ha => ?_, ins_sorted x t h.2⟩
   rcases List.mem_cons.1 ((ins_perm x t).mem_iff.1 ha) with rfl | ha
   ·omega
   ·exact h.1 a ha
theorem isort_sorted : ∀ l, (isort l).Pairwise (· ≤ ·)
 | [] => List.Pairwise.nil
 | x :: t => ins_sorted x _ (isort_sorted t)
theorem merge_isort (l : List Int) : (l.mergeSort fun x y => decide (x ≤ y)) = isort l := by
 refine List.Perm.eq_of_pairwise (le := fun a b : Int => a ≤ b) (fun a b _ _ h1 h2 => by omega) ?_ (isort_sorted l) ((List.mergeSort_perm l _).trans (isort_perm l).symm)
 have := List.pairwise_mergeSort (le := fun x y : Int => decide (x ≤ y)) (fun a b c h1 h2 => by simp at *; omega) (fun a b => by simp; omega) l
 exact this.imp (fun h => by simpa using h)
def strict : List Int → Bool
 | [] => true
 | [_] => true
 | x :: y :: t => decide (x < y) && strict (y :: t)
def inBlocks (r : Int) : Bool := blocksL.any fun b => (decide (b.1 ≤ r) && decide (r ≤ b.2.1)) || (decide (b.1 + b.2.2 ≤ r) && decide (r ≤ b.2.1 + b.2.2))
def inOthers (r : Int) : Bool := othersL.any fun o => decide (o.1 = r) || decide (o.2 = r)
def chk (r : Int) : Bool :=
 let c := capF r
 let l := isort (fam0 c)
 decide (l.length ≤ 10) && strict l && l.contains r && l.all (fun x => decide (capF x = c)) && (inBlocks r || inOthers r || decide (l = [r]))
theorem chk_blocks : (blocksL.all fun b => (List.range (b.2.1 - b.1 + 1).toNat).all fun (i : Nat) => chk (b.1 + (i : Int)) && chk (b.1 + b.2.2 + (i : Int))) = true := by decide +kernel
theorem chk_others : (othersL.all fun o => chk o.1 && chk o.2) = true := by decide +kernel
theorem chk_in (r : Int) (h : inBlocks r = true ∨ inOthers r = true) : chk r = true := by
 rcases h with h | h
 ·unfold inBlocks at h
  rw [List.any_eq_true] at h
  obtain ⟨b, hb, h⟩ := h
  have h2 := chk_blocks
  rw [List.all_eq_true] at h2
  have h3 := h2 b hb
  rw [List.all_eq_true] at h3
  simp only [Bool.or_eq_true, Bool.and_eq_true, decide_eq_true_eq] at h
  rcases h with h | h
  ·have h4 := h3 (r - b.1).toNat (by rw [List.mem_range]; omega)
   rw [Bool.and_eq_true, show b.1 + ((r - b.1).toNat : Int) = r from by omega] at h4
   exact h4.1
  ·have h4 := h3 (r - b.1 - b.2.2).toNat (by rw [List.mem_range]; omega)
   rw [Bool.and_eq_true, show b.1 + b.2.2 + ((r - b.1 - b.2.2).toNat : Int) = r from by omega] at h4
   exact h4.2
 ·unfold inOthers at h
  rw [List.any_eq_true] at h
  obtain ⟨o, ho, h⟩ := h
  have h2 := chk_others
  rw [List.all_eq_true] at h2
  have h3 := h2 o ho
  simp only [Bool.or_eq_true, Bool.and_eq_true, decide_eq_true_eq] at h h3
  rcases h with rfl | rfl
  ·exact h3.1
  ·exact h3.2
theorem not_in {r : Int} (h : ¬ (inBlocks r = true ∨ inOthers r = true)) : (∀ b ∈ blocksL, ¬ (b.1 ≤ r ∧ r ≤ b.2.1) ∧ ¬ (b.1 + b.2.2 ≤ r ∧ r ≤ b.2.1 + b.2.2)) ∧ ∀ o ∈ othersL, ¬ o.1 = r ∧ ¬ o.2 = r := by
 refine ⟨fun b hb => ⟨fun h1 => h (.inl ?_), fun h1 => h (.inl ?_)⟩, fun o ho => ⟨fun h1 => h (.inr ?_), fun h1 => h (.inr ?_)⟩⟩
 ·exact List.any_eq_true.2 ⟨b, hb, by simp [h1.1, h1.2]⟩
 ·exact List.any_eq_true.2 ⟨b, hb, by simp [h1.1, h1.2]⟩
 ·exact List.any_eq_true.2 ⟨o, ho, by simp [h1]⟩
 ·exact List.any_eq_true.2 ⟨o, ho, by simp [h1]⟩
theorem capB_out {r : Int} : ∀ {l : List (Int × Int × Int)}, (∀ b ∈ l, ¬ (b.1 + b.2.2 ≤ r ∧ r ≤ b.2.1 + b.2.2)) → capB l r = r
 | [], _ => rfl
 | (lo, hi, up) :: t, h => by rw [capB_no (h (lo, hi, up) (by simp))]; exact capB_out (fun b hb => h b (by simp [hb]))
theorem capO_out {r : Int} : ∀ {l : List (Int × Int)}, (∀ o ∈ l, ¬ o.1 = r) → capO l r = capB blocksL r
 | [], _ => rfl
 | (a, b) :: t, h => by unfold capO; rw [if_neg (h (a, b) (by simp))]; exact capO_out (fun o ho => h o (by simp [ho]))
theorem famB_out {r : Int} : ∀ {l : List (Int × Int × Int)}, (∀ b ∈ l, ¬ (b.1 ≤ r ∧ r ≤ b.2.1)) → famB l r = []
 | [], _ => rfl
 | (lo, hi, up) :: t, h => by rw [famB_no (h (lo, hi, up) (by simp))]; exact famB_out (fun b hb => h b (by simp [hb]))
theorem famO_out {r : Int} : ∀ {l : List (Int × Int)}, (∀ o ∈ l, ¬ o.2 = r) → famO l r = []
 | [], _ => rfl
 | (a, b) :: t, h => by rw [famO_no (h (a, b) (by simp))]; exact famO_out (fun o ho => h o (by simp [ho]))
theorem cap_out (r : Int) (h : ¬ (inBlocks r = true ∨ inOthers r = true)) : capF r = r := by
 have h' := not_in h
 unfold capF
 rw [capO_out (fun o ho => (h'.2 o ho).1), capB_out (fun b hb => (h'.1 b hb).2)]
theorem fam0_out (r : Int) (h : ¬ (inBlocks r = true ∨ inOthers r = true)) : fam0 r = [r] := by
 have h' := not_in h
 unfold fam0
 rw [famB_out (fun b hb => (h'.1 b hb).1), famO_out (fun o ho => (h'.2 o ho).2)]
 rfl
/-- All that the laws lean on. -/
theorem fam_facts (r : Int) : ((famF r).length ≤ 10 ∧ strict (famF r) = true) ∧ r ∈ famF r ∧ (∀ x ∈ famF r, capF x = capF r) ∧ (inBlocks r = true ∨ inOthers r = true ∨ famF r = [r]) := by
 unfold famF
 rw [merge_isort]
 by_cases h : inBlocks r = true ∨ inOthers r = true
 ·have hc := chk_in r h
  unfold chk at hc
  simp only [Bool.and_eq_true, Bool.or_eq_true, List.all_eq_true, decide_eq_true_eq] at hc
  obtain ⟨⟨⟨⟨h0, h1⟩, h2⟩, h3⟩, h4⟩ := hc
  refine ⟨⟨h0, h1⟩, by simpa using h2, h3, ?_⟩
  rcases h4 with (h4 | h4) | h4
  ·exact .inl h4
  ·exact .inr (.inl h4)
  ·exact .inr (.inr h4)
 ·rw [cap_out r h, fam0_out r h]
  refine ⟨⟨by simp [isort, ins], rfl⟩, by simp [isort, ins], fun x hx => ?_, .inr (.inr rfl)⟩
  have : x = r := by simpa [isort, ins] using hx
  rw [this, cap_out r h]
theorem fam_same {a b : Int} (h : capF a = capF b) : famF a = famF b := by unfold famF; rw [h]
theorem mem_fam {r x : Int} : x ∈ famF r ↔ capF x = capF r := by
 constructor
 ·exact (fam_facts r).2.2.1 x
 ·intro h
  have := (fam_facts x).2.1
  rwa [fam_same h] at this
end Go.Proofs.YtheheijhijeljaaGreatDoorX
namespace Go.Proofs.YtheheijhijeljaaGreatDoorX
set_option linter.unusedVariables false
/-! What fold.Close answers, over plain lists. -/
def capsAll : List Int := capsB 0 ++ capsO 0
def chk2 (r : Int) : Bool := capsAll.contains (capF r) && decide (capF (capF r) = capF r)
theorem chk2_blocks : (blocksL.all fun b => (List.range (b.2.1 - b.1 + 1).toNat).all fun (i : Nat) => chk2 (b.1 + (i : Int)) && chk2 (b.1 + b.2.2 + (i : Int))) = true := by decide +kernel
theorem chk2_others : (othersL.all fun o => chk2 o.1 && chk2 o.2) = true := by decide +kernel
theorem chk2_in (r : Int) (h : inBlocks r = true ∨ inOthers r = true) : chk2 r = true := by
 rcases h with h | h
 ·unfold inBlocks at h
  rw [List.any_eq_true] at h
  obtain ⟨b, hb, h⟩ := h
  have h2 := chk2_blocks
  rw [List.all_eq_true] at h2
  have h3 := h2 b hb
  rw [List.all_eq_true] at h3
  simp only [Bool.or_eq_true, Bool.and_eq_true, decide_eq_true_eq] at h
  rcases h with h | h
  ·have h4 := h3 (r - b.1).toNat (by rw [List.mem_range]; omega)
   rw [Bool.and_eq_true, show b.1 + ((r - b.1).toNat : Int) = r from by omega] at h4
   exact h4.1
  ·have h4 := h3 (r - b.1 - b.2.2).toNat (by rw [List.mem_range]; omega)
   rw [Bool.and_eq_true, show b.1 + b.2.2 + ((r - b.1 - b.2.2).toNat : Int) = r from by omega] at h4
   exact h4.2
 ·unfold inOthers at h
  rw [List.any_eq_true] at h
  obtain ⟨o, ho, h⟩ := h
  have h2 := chk2_others
  rw [List.all_eq_true] at h2
  have h3 := h2 o ho
  simp only [Bool.or_eq_true, Bool.and_eq_true, decide_eq_true_eq] at h h3
  rcases h with rfl | rfl
  ·exact h3.1
  ·exact h3.2
theorem inL_singles {f : List Int} {r : Int} : inL (f.map (fun r => (r, r))) r = true ↔ r ∈ f := by
 rw [inL_iff]
 constructor
 ·rintro ⟨x, hx, h1, h2⟩
  obtain ⟨y, hy, rfl⟩ := List.mem_map.1 hx
  have : y = r := by simp at h1 h2; omega
  exact this ▸ hy
 ·intro h
  exact ⟨(r, r), List.mem_map.2 ⟨r, h, rfl⟩, by simp, by simp⟩
theorem inL_flat {α : Type} {c : List α} {g : α → List (Int × Int)} {r : Int} : inL (c.flatMap g) r = true ↔ ∃ x ∈ c, inL (g x) r = true := by
 rw [inL_iff]
 constructor
 ·rintro ⟨x, hx, h⟩
  obtain ⟨y, hy, hx⟩ := List.mem_flatMap.1 hx
  exact ⟨y, hy, inL_iff.2 ⟨x, hx, h⟩⟩
 ·rintro ⟨y, hy, h⟩
  obtain ⟨x, hx, h⟩ := inL_iff.1 h
  exact ⟨x, List.mem_flatMap.2 ⟨y, hy, hx⟩, h⟩
theorem addF_in {l : List (Int × Int)} {c r : Int} : inL (addF l c) r = true ↔ capF r = capF c ∧ (famF r).any (hasL l) = true := by
 unfold addF
 by_cases h : (famF c).any (hasL l) = true
 ·rw [if_pos h, inL_singles, mem_fam]
  constructor
  ·intro e
   exact ⟨e, by rw [fam_same e]; exact h⟩
  ·exact fun e => e.1
 ·rw [if_neg h]
  constructor
  ·intro e; cases e
  ·intro e
   rw [fam_same e.1] at e
   exact absurd e.2 h
theorem closeL_in (l : List (Int × Int)) (r : Int) : inL (closeL l) r = (decide (0 ≤ r) && (decide (r ≤ 1114111) && (famF r).any (hasL l))) := by
 unfold closeL
 rw [normL_in]
 unfold hasL
 rw [inL_append]
 by_cases h0 : 0 ≤ r
 ·by_cases h1 : r ≤ 1114111
  ·rw [decide_eq_true h0, decide_eq_true h1, Bool.true_and, Bool.true_and, Bool.true_and, Bool.true_and]
   change (inL l r || inL (capsAll.flatMap (addF l)) r) = (famF r).any (hasL l)
   have hl : inL l r = hasL l r := by unfold hasL; rw [decide_eq_true h0, decide_eq_true h1, Bool.true_and, Bool.true_and]
   rw [hl, Bool.eq_iff_iff, Bool.or_eq_true, inL_flat]
   constructor
   ·rintro (h | ⟨c, hc, h⟩)
    ·exact List.any_eq_true.2 ⟨r, (fam_facts r).2.1, h⟩
    ·exact (addF_in.1 h).2
   ·intro h
    rcases (fam_facts r).2.2.2 with hi | hi | hi
    ·have hk := chk2_in r (.inl hi)
     unfold chk2 at hk
     simp only [Bool.and_eq_true, decide_eq_true_eq, List.contains_iff_mem] at hk
     exact .inr ⟨capF r, hk.1, addF_in.2 ⟨hk.2.symm, h⟩⟩
    ·have hk := chk2_in r (.inr hi)
     unfold chk2 at hk
     simp only [Bool.and_eq_true, decide_eq_true_eq, List.contains_iff_mem] at hk
     exact .inr ⟨capF r, hk.1, addF_in.2 ⟨hk.2.symm, h⟩⟩
    ·rw [hi] at h
     exact .inl (by simpa using h)
  ·rw [decide_eq_false h1, Bool.false_and, Bool.false_and]
 ·rw [decide_eq_false h0, Bool.false_and, Bool.false_and]
theorem closeL_nrm (l : List (Int × Int)) : Nrm (closeL l) := normL_nrm _
theorem fams_len : (capsAll.map fun c => (isort (fam0 (capF c))).length).sum ≤ 500 := by decide +kernel
theorem close_len (l : List (Int × Int)) : (closeL l).length ≤ l.length + 500 := by
 unfold closeL
 refine Nat.le_trans (normL_len _) ?_
 rw [List.length_append]
 have hg : ∀ c : List Int, (c.flatMap (addF l)).length ≤ (c.map fun c => (isort (fam0 (capF c))).length).sum := by
  intro c
  induction c with
  | nil => simp
  | cons x t ih =>
   have hx : (addF l x).length ≤ (isort (fam0 (capF x))).length := by
    have e : (famF x).length = (isort (fam0 (capF x))).length := by unfold famF; rw [merge_isort]
    unfold addF
    split
    ·rw [List.length_map, e]; exact Nat.le_refl _
    ·exact Nat.zero_le _
   rw [List.flatMap_cons, List.length_append, List.map_cons, List.sum_cons]
   omega
 have := hg capsAll
 have e := fams_len
 have e2 : (capsB 0 ++ capsO 0) = capsAll := rfl
 rw [e2]
 omega
end Go.Proofs.YtheheijhijeljaaGreatDoorX
namespace Go.Proofs.YtheheijhijeljaaGreatDoorX
open Go.RowKit Go.Proofs.YtheheijhijeljaaGreatDoorW.PrintWords Go.Proofs.YtheheijhijeljaaGreatDoorW.PrintLast Go.Proofs.YtheheijhijeljaaGreatDoorW.PrintMore
set_option linter.unusedVariables false
set_option linter.unusedSimpArgs false
theorem below_put {base : Nat} {w W : World} (h : Below base w W) {g i : Nat} (hg : base ≤ g) (u : Value) : Below base w (W.setCell ⟨g, i, none⟩ u) := h.setCell hg _
set_option maxHeartbeats 1000000 in
theorem spoil_any (l : List (Int × Int)) (w : World) (base : Nat) (ok : Nat → Prop) (v : Value) (hR : Kd.R kRg 36 w base ok v l) :
  Calls Tryz.prog 16 #[v] w (fun e w' => e = .returned (.tuple #[]) ∧ Below base w w') := by
 have hB := Below.refl base w
 have hO := ((fixed_R kRg_fixed).1 hR).2
 rw [kRg_sz] at hO
 clear hR
 generalize l.length = n at hO
 rcases hO.2 with ⟨rfl, rfl⟩ | ⟨g, cap, cur, rfl, hg, hh, hle, hmax, hsz, _⟩
 ·have HB := Aside0.mk hB
  clear hB
  go_enter Tryz.func16, Tryz.ntmps16
  go_wp2
  go_loopg [9] 0 (fun gh s9 wr => s9 = .int .i64 0 ∧ w = wr)
  case atStart => exact ⟨rfl, rfl⟩
  case round =>
   obtain ⟨rfl, rfl⟩ := hrel
   go_wp2
   go_end0
   exact ⟨rfl, HB.out⟩
 ·have HB := Aside0.mk hB
  have HH := Aside0.mk (show ∃ cur' : Array Value, cur'.size = cap * 2 ∧ w.heap[g]? = some (.cells cur' 36 (0, 0)) from ⟨cur, hsz, hh⟩)
  have HM := Aside0.mk hmax
  clear hB hh hsz hmax
  go_enter Tryz.func16, Tryz.ntmps16
  go_wp2
  go_loopg [9] cap (fun gh s9 wr => ∃ k : Nat, k ≤ cap ∧ cap - k ≤ gh ∧ s9 = .int .i64 k ∧ Aside0 (∃ cur' : Array Value, cur'.size = cap * 2 ∧ wr.heap[g]? = some (.cells cur' 36 (0, 0))) ∧ Aside0 (Below base w wr))
  case atStart => exact ⟨0, by omega, by omega, rfl, HH, HB⟩
  case round =>
   clear HH HB
   obtain ⟨k, hk, hgh, rfl, HH, HB⟩ := hrel
   have hm := HM.out
   unfold maxLen at hm
   by_cases hlt : k < cap
   ·obtain ⟨cur', hs', hh'⟩ := HH.out
    have c0 : wr.cell? ⟨g, k * 2, none⟩ = some (cur'[k * 2]'(by omega)) := (blk_cell hh' _).trans (Array.getElem?_eq_getElem _)
    have c1 : wr.cell? ⟨g, k * 2 + 1, none⟩ = some (cur'[k * 2 + 1]'(by omega)) := (blk_cell hh' _).trans (Array.getElem?_eq_getElem _)
    have f0 := blk_frozen hh' (k * 2)
    have f1 := blk_frozen hh' (k * 2 + 1)
    generalize cur'[k * 2]'(by omega) = o0 at c0
    generalize cur'[k * 2 + 1]'(by omega) = o1 at c1
    have HH' := Aside0.mk (And.intro hs' hh')
    clear hs' hh' HH hm
    go_wp2
    have hm := HM.out
    unfold maxLen at hm
    go_roundg (cap - (k + 1))
    case measure => omega
    case rel =>
     obtain ⟨hs', hh'⟩ := HH'.out
     exact ⟨k + 1, by omega, by omega, by rw [show wrap64 ((k : Int) + 1) = ((k + 1 : Nat) : Int) by unfold wrap64; omega], ⟨_, by rw [Array.size_setIfInBounds, Array.size_setIfInBounds]; exact hs', blk_put (blk_put hh' (k * 2) _ rfl) (k * 2 + 1) _ rfl⟩, ⟨below_put (below_put HB.out hg _) hg _⟩⟩
   ·go_wp2
    go_end0
    exact ⟨rfl, HB.out⟩
end Go.Proofs.YtheheijhijeljaaGreatDoorX
namespace Go.Proofs.YtheheijhijeljaaGreatDoorW.PrintWords
open Go.RowKit
theorem bz {P : Prop} (h : P := by repeat (first | (with_reducible first | exact HB.out | apply below_alloc | apply pw_below_drewN | apply below_drew1) | exact HB.out)) : P := h
theorem rz {Q P : Prop} (q : Q) (h : Q → P := by intro q_; (with_reducible repeat (first | apply Kd.R_alloc | apply Kd.R_drewN | apply Kd.R_drew)); exact q_) : P := h q
theorem mz {P : Prop} (h : P := by (try simp only [List.map_toArray, List.map_cons, List.map_nil]); first | done | rfl | (simp only [List.length_drop, List.length_take]; rfl)) : P := h
theorem oz {p : Prop} [Decidable p] (h : decide p = true := by first | (with_reducible assumption) | assumption) : p := of_decide_eq_true h
theorem ez {P : Prop} (h : P := by first | rfl | (simp; done) | (simp [*]; done)) : P := h
theorem fz {P : Prop} (h : P := by first | rfl | (simp [errW_none, errW_some] <;> rfl) | (simp [*, errW_none, errW_some] <;> rfl)) : P := h
theorem cz {Q P : Prop} (q : Q) (h : Q → P := by intro q_; repeat (first | exact q_ | (with_reducible refine Kd.C_alloc ?_ _) | (with_reducible refine Kd.C_drewN ?_ _) | (with_reducible refine Kd.C_drew ?_))) : P := h q
theorem kz {P : Prop} (h : P := by kernel_rfl) : P := h
theorem dz {P : Prop} (h : P := by repeat (first | exact Drawn0.refl _ | apply Drawn0.step)) : P := h
theorem hz {w w1 w2 : World} (hb : Below w1.heap.size w1 w2) (h : Below w.heap.size w w1 := by repeat (first | (with_reducible first | exact HB.out | apply below_alloc | apply pw_below_drewN | apply below_drew1) | exact HB.out)) : Aside0 (Below w.heap.size w w2) := ⟨below_step h hb⟩
theorem R_all {α : Type} {d : Kd α} {e base : Nat} {ok : Nat → Prop} {w : World} {v : Value} {xs : List α} (h : Kd.R d e w base ok v xs) : Kd.R d e w base (fun _ => True) v xs := Kd.R_mono h (fun _ _ => trivial)
end Go.Proofs.YtheheijhijeljaaGreatDoorW.PrintWords
