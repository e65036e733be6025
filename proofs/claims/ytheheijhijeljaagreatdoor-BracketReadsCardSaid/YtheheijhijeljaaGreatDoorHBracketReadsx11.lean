-- Made by wip/hyb (a program of this session over the kit's print); its parts marked 'own text' are typed by hand.
import Derived.Test.YtheheijhijeljaaGreatDoorHBracketReadsx3
import Derived.Test.YtheheijhijeljaaGreatDoorHBracketReadsx6
import Derived.Test.YtheheijhijeljaaGreatDoorHBracketReadsx10
namespace Go.Proofs.YtheheijhijeljaaGreatDoor.HBracketReads
open Go.RowKit Go.Proofs.YtheheijhijeljaaGreatDoorW.PrintWords Go.Proofs.YtheheijhijeljaaGreatDoorW.PrintLast Go.Proofs.YtheheijhijeljaaGreatDoorW.PrintMore
attribute [local go_sem] max2_int min2_int max_two min_two max_three min_three max_four min_four   -- for this text's walks alone
set_option linter.unusedVariables false
set_option linter.unusedSimpArgs false
-- own text
/-- The second half of a span. -/
def bracket_span.f (k : Nat) (s : ByteArray) (at_ next : Nat) (lo : Int) : Option (List S36 × Int × Int) :=
 if next ≤ s.size then
  (bracket_Set.f k (s.extract next s.size)).bind fun q => if q.2.2 ≠ 5 ∧ q.2.2 ≠ 3 then some ([], (next : Int), 70) else
   (bracket_one.f k (s.extract next s.size)).bind fun p => if p.2.2 ≠ 0 then some ([], (next : Int), p.2.2) else if p.1 < lo then some ([], (at_ : Int), 70) else if 0 ≤ p.2.1 ∧ p.2.1 ≤ s.size then some ([⟨lo, p.1⟩], (next : Int) + p.2.1, 0) else none
 else none
/-- An item: what it says, and the place behind it, or of what is wrong. -/
def bracket_item.f (k : Nat) (s : ByteArray) (at_ : Nat) : Option (List S36 × Int × Int) :=
 if at_ ≤ s.size then (strings_HasPrefix.f (s.extract at_ s.size) (⟨#[91, 58]⟩ : ByteArray)).bind fun t =>
  if t = true then (if 2 ≤ (s.extract at_ s.size).size then
   (if (Lib.cut ((s.extract at_ s.size).extract 2 (s.extract at_ s.size).size).data.toList [58, 93]).2.2 = true then
    (class_Colon.f k ⟨(Lib.cut ((s.extract at_ s.size).extract 2 (s.extract at_ s.size).size).data.toList [58, 93]).1.toArray⟩).bind fun q => if q.2 = 0 then some (q.1, (at_ : Int) + 2 + ((Lib.cut ((s.extract at_ s.size).extract 2 (s.extract at_ s.size).size).data.toList [58, 93]).1.length : Int) + 2, 0) else some ([], (at_ : Int), q.2)
       else some ([], (at_ : Int), 82)) else none)
  else (bracket_Set.f k (s.extract at_ s.size)).bind fun q => if q.2.2 = 0 then (if 0 ≤ q.2.1 ∧ q.2.1 ≤ s.size then some (q.1, (at_ : Int) + q.2.1, 0) else none) else if q.2.2 ≠ 5 ∧ q.2.2 ≠ 3 then some ([], (at_ : Int), q.2.2) else
   (bracket_one.f k (s.extract at_ s.size)).bind fun p => if p.2.2 ≠ 0 then some ([], (if (s.extract at_ s.size).toList = ([] : List UInt8) then (s.size : Int) else (at_ : Int)), p.2.2) else if 0 ≤ p.2.1 ∧ p.2.1 ≤ s.size then
    (if (s.size : Int) ≤ (at_ : Int) + p.2.1 + 1 ∨ bt s ((at_ : Int) + p.2.1) ≠ 45 ∨ bt s ((at_ : Int) + p.2.1 + 1) = 93 then some ([⟨p.1, p.1⟩], (at_ : Int) + p.2.1, 0)
         else bracket_span.f k s at_ ((at_ : Int) + p.2.1 + 1).toNat p.1) else none
 else none
def bracket_Bracket.l0 : Nat → ByteArray → Nat → Nat → List S36 → Option (List S36 × Int × Int)
 | 0, _, _, _, _ => none
 | k + 1, s, first, at_, acc => if at_ = first ∨ ((at_ : Int) < (s.size : Int) ∧ bt s at_ ≠ 93) then
   (bracket_item.f k s at_).bind fun q => if acc.length + q.1.length ≤ 100000 then (if q.2.2 ≠ 0 then some ([], q.2.1, q.2.2) else if 0 ≤ q.2.1 then bracket_Bracket.l0 k s first q.2.1.toNat (acc ++ q.1) else none) else none
  else if (s.size : Int) ≤ (at_ : Int) then some ([], (s.size : Int), 82) else some (acc, (at_ : Int), 0)
def bracket_Bracket.f (k : Nat) (s : ByteArray) (flags : Int) : Option (List S36 × Int × Int) :=
 if s.size ≤ 1000000 then if s.toList = ([] : List UInt8) then some ([], 0, 3) else if bt s 0 ≠ 91 then some ([], 0, 3) else
  (bracket_Bracket.l0 k s (if 1 < (s.size : Int) ∧ bt s 1 = 94 then 2 else 1) (if 1 < (s.size : Int) ∧ bt s 1 = 94 then 2 else 1) []).bind fun q => if q.2.2 ≠ 0 then some q else
   (if (Go.bits .and .i64 flags 1) ≠ 0 then fold_Close.f q.1 else some q.1).bind fun a => (if 1 < (s.size : Int) ∧ bt s 1 = 94 then ranges_Not.f k a else some a).bind fun b => (ranges_Norm.f k b).bind fun c => some (c, q.2.1 + 1, 0)
 else none
theorem bracket_span.mono (s : ByteArray) (at_ next : Nat) (lo : Int) (k : Nat) : LeO (bracket_span.f k s at_ next lo) (bracket_span.f (k + 1) s at_ next lo) := by
 unfold bracket_span.f
 repeat' first
   | (with_reducible exact bracket_Set.mono _ _)
   | (with_reducible exact bracket_one.mono _ _)
   | (with_reducible exact LeO.refl _)
   | (with_reducible refine LeO.ite ?_ ?_)
   | (with_reducible refine LeO.bind ?_ (fun _ => ?_))
theorem bracket_item.mono (s : ByteArray) (at_ : Nat) (k : Nat) : LeO (bracket_item.f k s at_) (bracket_item.f (k + 1) s at_) := by
 unfold bracket_item.f
 repeat' first
   | (with_reducible exact bracket_Set.mono _ _)
   | (with_reducible exact bracket_one.mono _ _)
   | (with_reducible exact bracket_span.mono _ _ _ _ _)
   | (with_reducible exact class_Colon.mono _ _)
   | (with_reducible exact LeO.refl _)
   | (with_reducible refine LeO.ite ?_ ?_)
   | (with_reducible refine LeO.bind ?_ (fun _ => ?_))
theorem bracket_Bracket.mono_l : ∀ k s first at_ acc, LeO (bracket_Bracket.l0 k s first at_ acc) (bracket_Bracket.l0 (k + 1) s first at_ acc)
 | 0, _, _, _, _ => fun r h => by simp [bracket_Bracket.l0] at h
 | k + 1, s, first, at_, acc => by
  rw [bracket_Bracket.l0, bracket_Bracket.l0]
  repeat' first
   | (with_reducible exact bracket_item.mono _ _ _)
   | (with_reducible exact bracket_Bracket.mono_l k _ _ _ _)
   | (with_reducible exact LeO.refl _)
   | (with_reducible refine LeO.ite ?_ ?_)
   | (with_reducible refine LeO.bind ?_ (fun _ => ?_))
theorem bracket_Bracket.mono : ∀ a0 a1 k, LeO (bracket_Bracket.f k a0 a1) (bracket_Bracket.f (k + 1) a0 a1) := by
 intro a0 a1 k
 unfold bracket_Bracket.f
 repeat' first
   | (with_reducible exact bracket_Bracket.mono_l _ _ _ _ _)
   | (with_reducible exact ranges_Not.mono _ _)
   | (with_reducible exact ranges_Norm.mono _ _)
   | (with_reducible exact LeO.refl _)
   | (with_reducible refine LeO.ite ?_ ?_)
   | (with_reducible refine LeO.bind ?_ (fun _ => ?_))
/-- One new range. -/
theorem cut_len (s sep : List UInt8) : (Lib.cut s sep).1.length ≤ s.length := by
 unfold Lib.cut
 split
 ·rw [List.length_take]; omega
 exact Nat.le_refl _
theorem row_one (w : World) (lo hi : Int) : Kd.C Go.Proofs.YtheheijhijeljaaGreatDoorX.kRg (w.alloc (.cells #[.int .i64 lo, .int .i64 hi] 36)) (some ⟨w.heap.size, 0, none⟩) 1 [(lo, hi)] := by
 refine ⟨rfl, by decide, fun _ => ⟨_, rfl, fun j p hj => ?_⟩⟩
 obtain ⟨rfl, rfl⟩ : j = 0 ∧ p = (lo, hi) := by
  cases j with
  | zero => exact ⟨rfl, (Option.some.inj hj).symm⟩
  | succ j => simp at hj
 refine ⟨[.int .i64 lo, .int .i64 hi], rfl, Go.Proofs.YtheheijhijeljaaGreatDoorX.kRg_mkK _ (lo, hi), fun i u hiu => ?_⟩
 have := World.news_of_block (cs := ([Value.int .i64 lo, .int .i64 hi] : List Value).toArray) (t := 36) (fr := (0, 0)) (heap_alloc_new w (.cells ([Value.int .i64 lo, .int .i64 hi] : List Value).toArray 36))
 have h2 := this i u (by simpa using hiu)
 simpa using h2
abbrev putFn (O : Nat) : Value := .func (.func 35) #[] #[.pointer (some ⟨O, 0, none⟩)]
set_option maxRecDepth 100000 in
set_option maxHeartbeats 4000000 in
theorem span_any (k : Nat) (s : ByteArray) (at_ next : Nat) (lo : Int) (l : List S36) (n e : Int) (hs : s.size ≤ 1000000) (w : World) (O : Nat) (hwO : w.heap.size ≤ O) (acc : List (Int × Int)) (hacc : acc.length ≤ 200000) (W : World)
  (hc : Go.Proofs.YtheheijhijeljaaGreatDoorX.Col2 w O (fun k => k = O) W acc) (h : bracket_span.f k s at_ next lo = some (l, n, e)) :
  Calls Tryz.prog 70 #[.string s, .int .i64 at_, .int .i64 next, .int .i64 lo, putFn O] W fun en w' => en = .returned (.tuple #[.int .i64 n, .int .i64 e]) ∧ Go.Proofs.YtheheijhijeljaaGreatDoorX.Col2 w O (fun k => k = O) w' (acc ++ l.map ofRg) := by
 have H := h
 clear h
 unfold bracket_span.f at H
 by_cases c1 : next ≤ s.size
 ·rw [if_pos c1] at H
  obtain ⟨⟨ql, qn, qe⟩, hq, H⟩ := Option.bind_eq_some_iff.1 H
  have HQ := Aside0.mk (fun w => bracket_Set.calls k (s.extract next s.size) ql qn qe w hq)
  have HC := Aside0.mk hc
  clear hq hc
  dsimp only at H
  have q1 : (next : Int) ≤ (s.size : Int) := by omega
  have HA := Aside0.mk hacc
  clear hacc c1
  by_cases c2 : qe ≠ 5 ∧ qe ≠ 3
  ·rw [if_pos c2] at H
   simp only [Option.some.injEq, Prod.mk.injEq] at H
   obtain ⟨rfl, rfl, rfl⟩ := H
   have c2a : (qe != 5) = true := bne_iff_ne.mpr c2.1
   have c2b : (qe != 3) = true := bne_iff_ne.mpr c2.2
   clear c2
   go_enter Tryz.func70, Tryz.ntmps70
   go_wp2_with fail
   refine (HQ.out _).mono ?_
   rintro e w1 ⟨v1, rfl, hR1, hb1⟩
   have HC1 := Aside0.mk (HC.out.below hb1)
   clear hR1 hb1 HC
   go_wp2_with fail
   go_ret2
   exact ⟨rfl, by rw [List.map_nil, List.append_nil]; exact HC1.out⟩
  rw [if_neg c2] at H
  obtain ⟨⟨p1, p2, p3⟩, hp, H⟩ := Option.bind_eq_some_iff.1 H
  have HP := Aside0.mk (fun w => bracket_one.calls k (s.extract next s.size) p1 p2 p3 w hp)
  clear hp
  dsimp only at H
  have key : ∀ b : Bool, (qe != 5) = b → (qe != 3) = !b ∨ ((qe != 3) = false) → True := fun _ _ _ => trivial
  clear key
  have h53 : qe = 5 ∨ qe = 3 := by
   by_cases h5 : qe = 5
   ·exact .inl h5
   exact .inr (Decidable.byContradiction fun h3 => c2 ⟨h5, h3⟩)
  clear c2
  by_cases c3 : p3 ≠ 0
  ·rw [if_pos c3] at H
   simp only [Option.some.injEq, Prod.mk.injEq] at H
   obtain ⟨rfl, rfl, rfl⟩ := H
   have c3a : (p3 != 0) = true := bne_iff_ne.mpr c3
   have c3b : (p3 == 0) = false := beq_eq_false_iff_ne.mpr c3
   clear c3
   rcases h53 with rfl | rfl
   all_goals
    go_enter Tryz.func70, Tryz.ntmps70
    go_wp2_with fail
    refine (HQ.out _).mono ?_
    rintro e w1 ⟨v1, rfl, hR1, hb1⟩
    have HC1 := Aside0.mk (HC.out.below hb1)
    clear hR1 hb1 HC
    go_wp2_with fail
    refine (HP.out _).mono ?_
    rintro e w2 ⟨rfl, hb2⟩
    have HC2 := Aside0.mk (HC1.out.below hb2)
    clear hb2 HC1
    go_wp2_with fail
    go_ret2
    exact ⟨rfl, by rw [List.map_nil, List.append_nil]; exact HC2.out⟩
  have c3' : p3 = 0 := Decidable.not_not.1 c3
  rw [if_neg c3] at H
  subst c3'
  clear c3
  by_cases c4 : p1 < lo
  ·rw [if_pos c4] at H
   simp only [Option.some.injEq, Prod.mk.injEq] at H
   obtain ⟨rfl, rfl, rfl⟩ := H
   have c4a : decide (p1 < lo) = true := decide_eq_true c4
   clear c4
   rcases h53 with rfl | rfl
   all_goals
    go_enter Tryz.func70, Tryz.ntmps70
    go_wp2_with fail
    refine (HQ.out _).mono ?_
    rintro e w1 ⟨v1, rfl, hR1, hb1⟩
    have HC1 := Aside0.mk (HC.out.below hb1)
    clear hR1 hb1 HC
    go_wp2_with fail
    refine (HP.out _).mono ?_
    rintro e w2 ⟨rfl, hb2⟩
    have HC2 := Aside0.mk (HC1.out.below hb2)
    clear hb2 HC1
    go_wp2_with fail
    go_ret2
    exact ⟨rfl, by rw [List.map_nil, List.append_nil]; exact HC2.out⟩
  rw [if_neg c4] at H
  have c4a : decide (p1 < lo) = false := decide_eq_false c4
  clear c4
  by_cases c5 : 0 ≤ p2 ∧ p2 ≤ s.size
  ·rw [if_pos c5] at H
   simp only [Option.some.injEq, Prod.mk.injEq] at H
   obtain ⟨rfl, rfl, rfl⟩ := H
   obtain ⟨c5a, c5b⟩ := c5
   have c5c : (s.size : Int) ≤ 1000000 := by omega
   rcases h53 with rfl | rfl
   all_goals
    go_enter Tryz.func70, Tryz.ntmps70
    go_wp2_with fail
    refine (HQ.out _).mono ?_
    rintro e w1 ⟨v1, rfl, hR1, hb1⟩
    have HC1 := Aside0.mk (HC.out.below hb1)
    clear hR1 hb1 HC
    go_wp2_with fail
    refine (HP.out _).mono ?_
    rintro e w2 ⟨rfl, hb2⟩
    have HC2 := Aside0.mk (HC1.out.below hb2)
    clear hb2 HC1
    go_wp2_with fail
    have HC3 := Aside0.mk (HC2.out.below ((Below.refl _ w2).alloc (Nat.le_refl _) (.cells #[.int .i64 lo, .int .i64 p1] 36)))
    refine (Go.Proofs.YtheheijhijeljaaGreatDoorX.put_any w O hwO _ _ [(lo, p1)] acc (by have := HA.out; simp; omega) _ (row_one w2 lo p1) HC3.out).mono ?_
    rintro e w3 ⟨rfl, hc3⟩
    have HC4 := Aside0.mk hc3
    clear hc3 HC2 HC3
    go_wp2_with fail
    go_ret2
    exact ⟨rfl, HC4.out⟩
  rw [if_neg c5] at H
  cases H
 rw [if_neg c1] at H
 cases H
def MaxAt (w : World) : Prop := ∃ m, w.cell? ⟨(Tryz.lay_cut_ren).g 1, 0, none⟩ = some (.int .i64 m)
theorem MaxAt.below {w w' : World} (h : MaxAt w) (hb : Below w.heap.size w w') : MaxAt w' := by
 obtain ⟨m, hm⟩ := h
 exact ⟨m, (hb.cell (World.block_lt_of_cell? w _ hm)).trans hm⟩
theorem col2_maxAt {w W : World} {O : Nat} {S : Nat → Prop} {acc : List (Int × Int)} (h : Go.Proofs.YtheheijhijeljaaGreatDoorX.Col2 w O S W acc) (hM : MaxAt w) : MaxAt W := by
 obtain ⟨v, h1, h2, h4⟩ := h
 exact hM.below h4
set_option maxRecDepth 100000 in
set_option maxHeartbeats 8000000 in
theorem item_any (k : Nat) (s : ByteArray) (at_ : Nat) (l : List S36) (n e : Int) (hs : s.size ≤ 1000000) (w : World) (hM : MaxAt w) (O : Nat) (hwO : w.heap.size ≤ O) (acc : List (Int × Int)) (hacc : acc.length + l.length ≤ 200000) (W : World)
  (hc : Go.Proofs.YtheheijhijeljaaGreatDoorX.Col2 w O (fun k => k = O) W acc) (h : bracket_item.f k s at_ = some (l, n, e)) :
  Calls Tryz.prog 36 #[.string s, .int .i64 at_, putFn O] W fun en w' => en = .returned (.tuple #[.int .i64 n, .int .i64 e]) ∧ Go.Proofs.YtheheijhijeljaaGreatDoorX.Col2 w O (fun k => k = O) w' (acc ++ l.map ofRg) := by
 have H := h
 clear h
 unfold bracket_item.f at H
 have c1 : at_ ≤ s.size := Decidable.byContradiction fun c => by rw [if_neg c] at H; cases H
 rw [if_pos c1] at H
 have q1 : (at_ : Int) ≤ (s.size : Int) := by omega
 have q2 : (s.size : Int) ≤ 1000000 := by omega
 have HA := Aside0.mk hacc
 have HC := Aside0.mk hc
 have HM := Aside0.mk hM
 have HSP := Aside0.mk (fun next lo l n e => span_any k s at_ next lo l n e hs w O hwO acc)
 clear hacc hc hM
 replace H := Option.bind_eq_some_iff.1 H
 obtain ⟨t, ht, H⟩ := H
 have HH := Aside0.mk (fun w => strings_HasPrefix.calls (s.extract at_ s.size) (⟨#[91, 58]⟩ : ByteArray) t w ht)
 clear ht
 have hrs : (s.extract at_ s.size).size ≤ s.size := by rw [ByteArray.size_extract]; omega
 obtain ⟨rest, hre⟩ : ∃ rest, s.extract at_ s.size = rest := ⟨_, rfl⟩
 simp only [hre] at H HH hrs
 clear c1
 cases t with
 | true =>
  rw [if_pos rfl] at H
  have c2 : 2 ≤ rest.size := Decidable.byContradiction fun c => by rw [if_neg c] at H; cases H
  rw [if_pos c2] at H
  have hex : (rest.extract 2 rest.size).size ≤ 1000000 := by rw [ByteArray.size_extract]; omega
  have HCUT := Aside0.mk (fun (w : World) (h : MaxAt w) => h.elim fun m hm => Go.Proofs.Any.strings_Cut Tryz.lay_cut (rest.extract 2 rest.size) (⟨#[58, 93]⟩ : ByteArray) m w (by omega) hm)
  simp only [show (⟨#[58, 93]⟩ : ByteArray).data.toList = [58, 93] from rfl] at HCUT
  change Aside0 (∀ w, MaxAt w → Calls Tryz.prog 67 _ w _) at HCUT
  have hcl : ((Lib.cut (rest.extract 2 rest.size).data.toList [58, 93]).1.length : Int) ≤ 1000000 := by
   have := cut_len (rest.extract 2 rest.size).data.toList [58, 93]
   have h2 : (rest.extract 2 rest.size).data.toList.length = (rest.extract 2 rest.size).size := Array.length_toList
   omega
  generalize hcv : Lib.cut (rest.extract 2 rest.size).data.toList [58, 93] = cv at HCUT H hcl
  clear hcv
  obtain ⟨cn, cr, cb⟩ := cv
  dsimp only at HCUT H hcl
  have c2i : 2 ≤ (rest.size : Int) := by omega
  clear c2 hex hrs hs
  cases cb with
  | false =>
   rw [if_neg (by decide)] at H
   simp only [Option.some.injEq, Prod.mk.injEq] at H
   obtain ⟨rfl, rfl, rfl⟩ := H
   go_enter Tryz.func36, Tryz.ntmps36
   go_wp2_with fail
   refine (HH.out _).mono ?_
   rintro e w1 ⟨rfl, hb1⟩
   have hb1 := drawn_below hb1
   have HC1 := Aside0.mk (HC.out.below hb1)
   clear hb1 HC
   go_wp2_with fail
   refine (HCUT.out _ (col2_maxAt HC1.out HM.out)).mono ?_
   rintro e w2 ⟨rfl, nd, rfl⟩
   have HC2 := Aside0.mk (HC1.out.below (pw_below_drewN (Below.refl _ _) nd))
   clear HC1
   go_wp2_with fail
   go_ret2
   exact ⟨rfl, by rw [List.map_nil, List.append_nil]; exact HC2.out⟩
  | true =>
   rw [if_pos rfl] at H
   replace H := Option.bind_eq_some_iff.1 H
   obtain ⟨⟨q1', q2'⟩, hq, H⟩ := H
   have HQ := Aside0.mk (fun w => class_Colon.calls k ⟨cn.toArray⟩ q1' q2' w hq)
   clear hq
   dsimp only at H
   have hcs : (⟨cn.toArray⟩ : ByteArray).size = cn.length := by simp [ByteArray.size]
   by_cases c3 : q2' = 0
   ·rw [if_pos c3] at H
    simp only [Option.some.injEq, Prod.mk.injEq] at H
    obtain ⟨rfl, rfl, rfl⟩ := H
    subst c3
    go_enter Tryz.func36, Tryz.ntmps36
    go_wp2_with fail
    refine (HH.out _).mono ?_
    rintro e w1 ⟨rfl, hb1⟩
    have hb1 := drawn_below hb1
    have HC1 := Aside0.mk (HC.out.below hb1)
    clear hb1 HC
    go_wp2_with fail
    refine (HCUT.out _ (col2_maxAt HC1.out HM.out)).mono ?_
    rintro e w2 ⟨rfl, nd, rfl⟩
    have HC2 := Aside0.mk (HC1.out.below (pw_below_drewN (Below.refl _ _) nd))
    clear HC1
    go_wp2_with fail
    refine (HQ.out _).mono ?_
    rintro e w3 ⟨v3, rfl, hR3, hb3⟩
    have HC3 := Aside0.mk (HC2.out.below hb3)
    rw [rg_kd] at hR3
    have hR3 := Go.Proofs.YtheheijhijeljaaGreatDoorX.R_iso.1 hR3
    obtain ⟨A3, c3, rfl⟩ := Kd.R_slice hR3
    have HR3 := Aside0.mk (Kd.R_reads' hR3).2.2
    clear hb3 HC2 hR3
    go_wp2_with fail
    have hput := Go.Proofs.YtheheijhijeljaaGreatDoorX.put_any w O hwO A3 c3 (q1'.map ofRg) acc (by have := HA.out; rw [List.length_map]; omega) _ HR3.out HC3.out
    rw [List.length_map] at hput
    refine hput.mono ?_
    clear hput
    rintro e w4 ⟨rfl, hc4⟩
    have HC4 := Aside0.mk hc4
    clear hc4 HC3 HR3
    go_wp2_with fail
    go_ret2
    exact ⟨rfl, HC4.out⟩
   rw [if_neg c3] at H
   simp only [Option.some.injEq, Prod.mk.injEq] at H
   obtain ⟨rfl, rfl, rfl⟩ := H
   have c3a : (q2' != 0) = true := bne_iff_ne.mpr c3
   have c3b : (q2' == 0) = false := beq_eq_false_iff_ne.mpr c3
   clear c3
   go_enter Tryz.func36, Tryz.ntmps36
   go_wp2_with fail
   refine (HH.out _).mono ?_
   rintro e w1 ⟨rfl, hb1⟩
   have hb1 := drawn_below hb1
   have HC1 := Aside0.mk (HC.out.below hb1)
   clear hb1 HC
   go_wp2_with fail
   refine (HCUT.out _ (col2_maxAt HC1.out HM.out)).mono ?_
   rintro e w2 ⟨rfl, nd, rfl⟩
   have HC2 := Aside0.mk (HC1.out.below (pw_below_drewN (Below.refl _ _) nd))
   clear HC1
   go_wp2_with fail
   refine (HQ.out _).mono ?_
   rintro e w3 ⟨v3, rfl, hR3, hb3⟩
   have HC3 := Aside0.mk (HC2.out.below hb3)
   clear hR3 hb3 HC2
   go_wp2_with fail
   go_ret2
   exact ⟨rfl, by rw [List.map_nil, List.append_nil]; exact HC3.out⟩
 | false =>
  rw [if_neg (by decide)] at H
  replace H := Option.bind_eq_some_iff.1 H
  obtain ⟨⟨ql, qn, qe⟩, hq, H⟩ := H
  have HQ := Aside0.mk (fun w => bracket_Set.calls k rest ql qn qe w hq)
  clear hq hrs hs
  dsimp only at H
  by_cases c3 : qe = 0
  ·rw [if_pos c3] at H
   subst c3
   by_cases c4 : 0 ≤ qn ∧ qn ≤ s.size
   ·rw [if_pos c4] at H
    simp only [Option.some.injEq, Prod.mk.injEq] at H
    obtain ⟨rfl, rfl, rfl⟩ := H
    obtain ⟨c4a, c4b⟩ := c4
    go_enter Tryz.func36, Tryz.ntmps36
    go_wp2_with fail
    refine (HH.out _).mono ?_
    rintro e w1 ⟨rfl, hb1⟩
    have hb1 := drawn_below hb1
    have HC1 := Aside0.mk (HC.out.below hb1)
    clear hb1 HC
    go_wp2_with fail
    refine (HQ.out _).mono ?_
    rintro e w2 ⟨v2, rfl, hR2, hb2⟩
    have HC2 := Aside0.mk (HC1.out.below hb2)
    rw [rg_kd] at hR2
    have hR2 := Go.Proofs.YtheheijhijeljaaGreatDoorX.R_iso.1 hR2
    obtain ⟨A3, c3, rfl⟩ := Kd.R_slice hR2
    have HR3 := Aside0.mk (Kd.R_reads' hR2).2.2
    clear hb2 HC1 hR2
    go_wp2_with fail
    have hput := Go.Proofs.YtheheijhijeljaaGreatDoorX.put_any w O hwO A3 c3 (ql.map ofRg) acc (by have := HA.out; rw [List.length_map]; omega) _ HR3.out HC2.out
    rw [List.length_map] at hput
    refine hput.mono ?_
    clear hput
    rintro e w4 ⟨rfl, hc4⟩
    have HC4 := Aside0.mk hc4
    clear hc4 HC2 HR3
    go_wp2_with fail
    go_ret2
    exact ⟨rfl, HC4.out⟩
   rw [if_neg c4] at H
   cases H
  rw [if_neg c3] at H
  have c3a : (qe == 0) = false := beq_eq_false_iff_ne.mpr c3
  by_cases c4 : qe ≠ 5 ∧ qe ≠ 3
  ·rw [if_pos c4] at H
   simp only [Option.some.injEq, Prod.mk.injEq] at H
   obtain ⟨rfl, rfl, rfl⟩ := H
   have c4a : (qe != 5) = true := bne_iff_ne.mpr c4.1
   have c4b : (qe != 3) = true := bne_iff_ne.mpr c4.2
   clear c4 c3
   go_enter Tryz.func36, Tryz.ntmps36
   go_wp2_with fail
   refine (HH.out _).mono ?_
   rintro e w1 ⟨rfl, hb1⟩
   have hb1 := drawn_below hb1
   have HC1 := Aside0.mk (HC.out.below hb1)
   clear hb1 HC
   go_wp2_with fail
   refine (HQ.out _).mono ?_
   rintro e w2 ⟨v2, rfl, hR2, hb2⟩
   have HC2 := Aside0.mk (HC1.out.below hb2)
   clear hR2 hb2 HC1
   go_wp2_with fail
   go_ret2
   exact ⟨rfl, by rw [List.map_nil, List.append_nil]; exact HC2.out⟩
  rw [if_neg c4] at H
  replace H := Option.bind_eq_some_iff.1 H
  obtain ⟨⟨p1, p2, p3⟩, hp, H⟩ := H
  have HP := Aside0.mk (fun w => bracket_one.calls k rest p1 p2 p3 w hp)
  clear hp c3a c3
  dsimp only at H
  have h53 : qe = 5 ∨ qe = 3 := by
   by_cases h5 : qe = 5
   ·exact .inl h5
   exact .inr (Decidable.byContradiction fun h3 => c4 ⟨h5, h3⟩)
  clear c4
  by_cases c5 : p3 ≠ 0
  ·rw [if_pos c5] at H
   simp only [Option.some.injEq, Prod.mk.injEq] at H
   obtain ⟨rfl, rfl, rfl⟩ := H
   have c5a : (p3 != 0) = true := bne_iff_ne.mpr c5
   have c5b : (p3 == 0) = false := beq_eq_false_iff_ne.mpr c5
   clear c5
   by_cases c6 : rest.toList = ([] : List UInt8)
   ·rw [if_pos c6]
    have c6a : (rest.toList == ([] : List UInt8)) = true := beq_iff_eq.mpr c6
    clear c6
    rcases h53 with rfl | rfl
    all_goals
     go_enter Tryz.func36, Tryz.ntmps36
     go_wp2_with fail
     refine (HH.out _).mono ?_
     rintro e w1 ⟨rfl, hb1⟩
     have hb1 := drawn_below hb1
     have HC1 := Aside0.mk (HC.out.below hb1)
     clear hb1 HC
     go_wp2_with fail
     refine (HQ.out _).mono ?_
     rintro e w2 ⟨v2, rfl, hR2, hb2⟩
     have HC2 := Aside0.mk (HC1.out.below hb2)
     clear hR2 hb2 HC1
     go_wp2_with fail
     refine (HP.out _).mono ?_
     rintro e w3 ⟨rfl, hb3⟩
     have HC3 := Aside0.mk (HC2.out.below hb3)
     clear hb3 HC2
     go_wp2_with fail
     go_ret2
     exact ⟨rfl, by rw [List.map_nil, List.append_nil]; exact HC3.out⟩
   rw [if_neg c6]
   have c6a : (rest.toList == ([] : List UInt8)) = false := beq_eq_false_iff_ne.mpr c6
   clear c6
   rcases h53 with rfl | rfl
   all_goals
    go_enter Tryz.func36, Tryz.ntmps36
    go_wp2_with fail
    refine (HH.out _).mono ?_
    rintro e w1 ⟨rfl, hb1⟩
    have hb1 := drawn_below hb1
    have HC1 := Aside0.mk (HC.out.below hb1)
    clear hb1 HC
    go_wp2_with fail
    refine (HQ.out _).mono ?_
    rintro e w2 ⟨v2, rfl, hR2, hb2⟩
    have HC2 := Aside0.mk (HC1.out.below hb2)
    clear hR2 hb2 HC1
    go_wp2_with fail
    refine (HP.out _).mono ?_
    rintro e w3 ⟨rfl, hb3⟩
    have HC3 := Aside0.mk (HC2.out.below hb3)
    clear hb3 HC2
    go_wp2_with fail
    go_ret2
    exact ⟨rfl, by rw [List.map_nil, List.append_nil]; exact HC3.out⟩
  have c5' : p3 = 0 := Decidable.not_not.1 c5
  rw [if_neg c5] at H
  subst c5'
  clear c5
  have c6 : 0 ≤ p2 ∧ p2 ≤ s.size := Decidable.byContradiction fun c => by rw [if_neg c] at H; cases H
  rw [if_pos c6] at H
  obtain ⟨c6a, c6b⟩ := c6
  by_cases c7 : (s.size : Int) ≤ (at_ : Int) + p2 + 1
  ·rw [if_pos (.inl c7)] at H
   simp only [Option.some.injEq, Prod.mk.injEq] at H
   obtain ⟨rfl, rfl, rfl⟩ := H
   have c7a : decide ((s.size : Int) ≤ (at_ : Int) + p2 + 1) = true := decide_eq_true c7
   rcases h53 with rfl | rfl
   all_goals
    go_enter Tryz.func36, Tryz.ntmps36
    go_wp2_with fail
    refine (HH.out _).mono ?_
    rintro e w1 ⟨rfl, hb1⟩
    have hb1 := drawn_below hb1
    have HC1 := Aside0.mk (HC.out.below hb1)
    clear hb1 HC
    go_wp2_with fail
    refine (HQ.out _).mono ?_
    rintro e w2 ⟨v2, rfl, hR2, hb2⟩
    have HC2 := Aside0.mk (HC1.out.below hb2)
    clear hR2 hb2 HC1
    go_wp2_with fail
    refine (HP.out _).mono ?_
    rintro e w3 ⟨rfl, hb3⟩
    have HC3 := Aside0.mk (HC2.out.below hb3)
    clear hb3 HC2
    go_wp2_with fail
    have HC4 := Aside0.mk (HC3.out.below ((Below.refl _ w3).alloc (Nat.le_refl _) (.cells #[.int .i64 p1, .int .i64 p1] 36)))
    refine (Go.Proofs.YtheheijhijeljaaGreatDoorX.put_any w O hwO _ _ [(p1, p1)] acc (by have := HA.out; simp at this ⊢; omega) _ (row_one w3 p1 p1) HC4.out).mono ?_
    rintro e w5 ⟨rfl, hc5⟩
    have HC5 := Aside0.mk hc5
    clear hc5 HC3 HC4
    go_wp2_with fail
    go_ret2
    exact ⟨rfl, HC5.out⟩
  have c7a : decide ((s.size : Int) ≤ (at_ : Int) + p2 + 1) = false := decide_eq_false c7
  have c7b : (at_ : Int) + p2 + 1 < (s.size : Int) := by omega
  have hx0 : ∀ h : ((at_ : Int) + p2).toNat < s.size, ((s[((at_ : Int) + p2).toNat]'h).toNat : Int) = bt s ((at_ : Int) + p2) := bt_at s _
  have hx1 : ∀ h : ((at_ : Int) + p2 + 1).toNat < s.size, ((s[((at_ : Int) + p2 + 1).toNat]'h).toNat : Int) = bt s ((at_ : Int) + p2 + 1) := bt_at s _
  have qi0 : ((at_ : Int) + p2 < (s.size : Int)) = True := eq_true (by omega)
  have qi1 : ((at_ : Int) + p2 + 1 < (s.size : Int)) = True := eq_true (by omega)
  have qp0 : (0 ≤ (at_ : Int) + p2) = True := eq_true (by omega)
  have qp1 : (0 ≤ (at_ : Int) + p2 + 1) = True := eq_true (by omega)
  by_cases c8 : bt s ((at_ : Int) + p2) = 45
  ·by_cases c9 : bt s ((at_ : Int) + p2 + 1) = 93
   ·rw [if_pos (.inr (.inr c9))] at H
    simp only [Option.some.injEq, Prod.mk.injEq] at H
    obtain ⟨rfl, rfl, rfl⟩ := H
    rw [c8] at hx0
    rw [c9] at hx1
    rcases h53 with rfl | rfl
    all_goals
     go_enter Tryz.func36, Tryz.ntmps36
     go_wp2_with fail
     refine (HH.out _).mono ?_
     rintro e w1 ⟨rfl, hb1⟩
     have hb1 := drawn_below hb1
     have HC1 := Aside0.mk (HC.out.below hb1)
     clear hb1 HC
     go_wp2_with fail
     refine (HQ.out _).mono ?_
     rintro e w2 ⟨v2, rfl, hR2, hb2⟩
     have HC2 := Aside0.mk (HC1.out.below hb2)
     clear hR2 hb2 HC1
     go_wp2_with fail
     refine (HP.out _).mono ?_
     rintro e w3 ⟨rfl, hb3⟩
     have HC3 := Aside0.mk (HC2.out.below hb3)
     clear hb3 HC2
     go_wp2_with fail
     have HC4 := Aside0.mk (HC3.out.below ((Below.refl _ w3).alloc (Nat.le_refl _) (.cells #[.int .i64 p1, .int .i64 p1] 36)))
     refine (Go.Proofs.YtheheijhijeljaaGreatDoorX.put_any w O hwO _ _ [(p1, p1)] acc (by have := HA.out; simp at this ⊢; omega) _ (row_one w3 p1 p1) HC4.out).mono ?_
     rintro e w5 ⟨rfl, hc5⟩
     have HC5 := Aside0.mk hc5
     clear hc5 HC3 HC4
     go_wp2_with fail
     go_ret2
     exact ⟨rfl, HC5.out⟩
   rw [if_neg (fun h => h.elim c7 (fun h => h.elim (fun h => h c8) c9))] at H
   rw [c8] at hx0
   have c9a : (bt s ((at_ : Int) + p2 + 1) == 93) = false := beq_eq_false_iff_ne.mpr c9
   obtain ⟨nx, hnx⟩ : ∃ nx : Nat, (at_ : Int) + p2 + 1 = nx := ⟨((at_ : Int) + p2 + 1).toNat, by omega⟩
   have HNX := Aside0.mk hnx
   rw [hnx, Int.toNat_natCast] at H
   have HSS := Aside0.mk (fun W hc => HSP.out nx p1 l n e (by have := HA.out; omega) W hc H)
   clear H hnx c8 c9
   rcases h53 with rfl | rfl
   all_goals
    go_enter Tryz.func36, Tryz.ntmps36
    go_wp2_with fail
    refine (HH.out _).mono ?_
    rintro e w1 ⟨rfl, hb1⟩
    have hb1 := drawn_below hb1
    have HC1 := Aside0.mk (HC.out.below hb1)
    clear hb1 HC
    go_wp2_with fail
    refine (HQ.out _).mono ?_
    rintro e w2 ⟨v2, rfl, hR2, hb2⟩
    have HC2 := Aside0.mk (HC1.out.below hb2)
    clear hR2 hb2 HC1
    go_wp2_with fail
    refine (HP.out _).mono ?_
    rintro e w3 ⟨rfl, hb3⟩
    have HC3 := Aside0.mk (HC2.out.below hb3)
    clear hb3 HC2
    go_wp2_with fail
    rw [HNX.out]
    refine (HSS.out _ HC3.out).mono ?_
    rintro e w5 ⟨rfl, hc5⟩
    have HC5 := Aside0.mk hc5
    clear hc5 HC3
    go_wp2_with fail
    go_ret2
    exact ⟨rfl, HC5.out⟩
  rw [if_pos (.inr (.inl c8))] at H
  simp only [Option.some.injEq, Prod.mk.injEq] at H
  obtain ⟨rfl, rfl, rfl⟩ := H
  have c8a : (bt s ((at_ : Int) + p2) != 45) = true := bne_iff_ne.mpr c8
  have c8b : (bt s ((at_ : Int) + p2) == 45) = false := beq_eq_false_iff_ne.mpr c8
  clear c8
  rcases h53 with rfl | rfl
  all_goals
   go_enter Tryz.func36, Tryz.ntmps36
   go_wp2_with fail
   refine (HH.out _).mono ?_
   rintro e w1 ⟨rfl, hb1⟩
   have hb1 := drawn_below hb1
   have HC1 := Aside0.mk (HC.out.below hb1)
   clear hb1 HC
   go_wp2_with fail
   refine (HQ.out _).mono ?_
   rintro e w2 ⟨v2, rfl, hR2, hb2⟩
   have HC2 := Aside0.mk (HC1.out.below hb2)
   clear hR2 hb2 HC1
   go_wp2_with fail
   refine (HP.out _).mono ?_
   rintro e w3 ⟨rfl, hb3⟩
   have HC3 := Aside0.mk (HC2.out.below hb3)
   clear hb3 HC2
   go_wp2_with fail
   have HC4 := Aside0.mk (HC3.out.below ((Below.refl _ w3).alloc (Nat.le_refl _) (.cells #[.int .i64 p1, .int .i64 p1] 36)))
   refine (Go.Proofs.YtheheijhijeljaaGreatDoorX.put_any w O hwO _ _ [(p1, p1)] acc (by have := HA.out; simp at this ⊢; omega) _ (row_one w3 p1 p1) HC4.out).mono ?_
   rintro e w5 ⟨rfl, hc5⟩
   have HC5 := Aside0.mk hc5
   clear hc5 HC3 HC4
   go_wp2_with fail
   go_ret2
   exact ⟨rfl, HC5.out⟩
theorem col2_reads {w W : World} {O : Nat} {l : List S36} (h : Go.Proofs.YtheheijhijeljaaGreatDoorX.Col2 w O (fun k => k = O) W (l.map ofRg)) :
  ∃ A c, W.cell? ⟨O, 0, none⟩ = some (.slice A l.length c) ∧ W.frozen? ⟨O, 0, none⟩ = false ∧ l.length ≤ c ∧ Kd.C k36 W A l.length l := by
 obtain ⟨v, h1, h2, h4⟩ := h
 obtain ⟨A, c, rfl⟩ := Kd.R_slice h2
 obtain ⟨e1, e2, e3⟩ := Kd.R_reads' h2
 rw [List.length_map] at h1 e2 e3
 exact ⟨A, c, (blk_cell h1 0).trans rfl, blk_frozen h1 0, e2, by rw [rg_kd]; exact Go.Proofs.YtheheijhijeljaaGreatDoorX.C_iso.2 e3⟩
theorem col2_put {w W W' : World} {O : Nat} (hwO : w.heap.size ≤ O) {acc : List (Int × Int)} {r : List S36} {v : Value} (h : Go.Proofs.YtheheijhijeljaaGreatDoorX.Col2 w O (fun k => k = O) W acc) (hb : Below W.heap.size W W') (hR : Kd.R k36 36 W' W.heap.size (fun _ => True) v r) :
  Go.Proofs.YtheheijhijeljaaGreatDoorX.Col2 w O (fun k => k = O) (W'.setCell ⟨O, 0, none⟩ v) (r.map ofRg) := by
 obtain ⟨v0, h1, h2, h4⟩ := h
 have hO := blk_lt h1
 have h1' := (hb.block O hO).trans h1
 rw [rg_kd] at hR
 have hR := Go.Proofs.YtheheijhijeljaaGreatDoorX.R_iso.1 hR
 refine ⟨v, blk_put h1' 0 _ rfl, ?_, ?_⟩
 ·have := Kd.R_far (Kd.R_bound hR) (p := ⟨O, 0, none⟩) (fun k hk => show k ≠ O from fun e => by have := hk.2.1; omega) v
  exact Kd.R_lower (Kd.R_mono this (fun k hk e => by have := hk.2.1; omega)) h4.size
 exact (h4.trans (hb.mono h4.size)).setCell (p := ⟨O, 0, none⟩) hwO v
theorem col2_frozen {w W W' : World} {O : Nat} {S : Nat → Prop} {acc : List (Int × Int)} (h : Go.Proofs.YtheheijhijeljaaGreatDoorX.Col2 w O S W acc) (hb : Below W.heap.size W W') : W'.frozen? ⟨O, 0, none⟩ = false ∧ ∃ v, W'.cell? ⟨O, 0, none⟩ = some v := by
 obtain ⟨v0, h1, h2, h4⟩ := h
 have h1' := (hb.block O (blk_lt h1)).trans h1
 exact ⟨blk_frozen h1' 0, v0, (blk_cell h1' 0).trans rfl⟩
theorem put_reads {W W' : World} {O n c : Nat} {A : Option Addr} {r : List S36} (hR : Kd.R k36 36 W' W.heap.size (fun _ => True) (.slice A n c) r) (hO : O < W.heap.size) (u : Value) :
  r.length ≤ c ∧ Kd.C k36 (W'.setCell ⟨O, 0, none⟩ u) A r.length r := by
 have h := Kd.R_far (Kd.R_bound hR) (p := ⟨O, 0, none⟩) (fun k hk => show k ≠ O from fun e => by have := hk.2.1; omega) u
 obtain ⟨e1, e2, e3⟩ := Kd.R_reads' h
 exact ⟨by omega, e3⟩
theorem col2_lt {w W : World} {O : Nat} {S : Nat → Prop} {acc : List (Int × Int)} (h : Go.Proofs.YtheheijhijeljaaGreatDoorX.Col2 w O S W acc) : O < W.heap.size := by
 obtain ⟨v0, h1, h2, h4⟩ := h
 exact blk_lt h1
theorem col2_out {w W : World} {O : Nat} {r : List S36} (h : Go.Proofs.YtheheijhijeljaaGreatDoorX.Col2 w O (fun k => k = O) W (r.map ofRg)) : ∃ v, W.cell? ⟨O, 0, none⟩ = some v ∧ Kd.R k36 36 W w.heap.size (fun _ => True) v r ∧ Below w.heap.size w W := by
 obtain ⟨v0, h1, h2, h4⟩ := h
 exact ⟨v0, (blk_cell h1 0).trans rfl, by rw [rg_kd]; exact Go.Proofs.YtheheijhijeljaaGreatDoorX.R_iso.2 (Kd.R_mono h2 (fun _ _ => trivial)), h4⟩
theorem col2_nil {w W : World} {O : Nat} (hwO : w.heap.size ≤ O) {acc : List (Int × Int)} (h : Go.Proofs.YtheheijhijeljaaGreatDoorX.Col2 w O (fun k => k = O) W acc) : Go.Proofs.YtheheijhijeljaaGreatDoorX.Col2 w O (fun k => k = O) (W.setCell ⟨O, 0, none⟩ (.slice none 0 0)) (([] : List S36).map ofRg) :=
 col2_put hwO h (Below.refl _ _) (Kd.R_nil _ _ _ _ _)
set_option maxRecDepth 100000 in
set_option maxHeartbeats 8000000 in
theorem bracket_Bracket.calls (k : Nat) (a0 : ByteArray) (a1 : Int) (r1 : List S36) (r2 : Int) (r3 : Int) (w : World) (hM : MaxAt w) (h : bracket_Bracket.f k a0 a1 = some (r1, r2, r3)) :
  Calls Tryz.prog 14 #[.string a0, .int .i64 a1] w fun e w' => ∃ v0_ : Value, e = .returned (.tuple #[v0_, .int .i64 r2, .int .i64 r3]) ∧ Kd.R k36 36 w' w.heap.size (fun _ => True) v0_ r1 ∧ Below w.heap.size w w' := by
 have H := h
 clear h
 unfold bracket_Bracket.f at H
 have hs : a0.size ≤ 1000000 := Decidable.byContradiction fun c => by rw [if_neg c] at H; cases H
 rw [if_pos hs] at H
 have hsi : (a0.size : Int) ≤ 1000000 := by omega
 have HM := Aside0.mk hM
 have HC0 := Aside0.mk (show Go.Proofs.YtheheijhijeljaaGreatDoorX.Col2 w w.heap.size (fun k => k = w.heap.size) (w.alloc (.cells #[.slice none 0 0] 26)) (([] : List S36).map ofRg) from ⟨_, heap_alloc_new _ _, Kd.R_nil _ _ _ _ _, (Below.refl _ _).alloc (Nat.le_refl _) _⟩)
 clear hM
 by_cases c1 : a0.toList = ([] : List UInt8)
 ·rw [if_pos c1] at H
  simp only [Option.some.injEq, Prod.mk.injEq] at H
  obtain ⟨rfl, rfl, rfl⟩ := H
  have c1b0 := beq_iff_eq.mpr c1
  clear c1
  go_enter Tryz.func14, Tryz.ntmps14
  go_wp2_with fail
  exact bodyPost_ret (v := .tuple #[.slice none 0 0, .int .i64 0, .int .i64 3]) (by simp [results, Tryz.results14, go_sem]) rfl ⟨_, rfl, Kd.R_nil _ _ _ _ _, (Below.refl _ _).alloc (Nat.le_refl _) _⟩
 rw [if_neg c1] at H
 have hpos : 0 < a0.size := by
  rcases Nat.eq_zero_or_pos a0.size with h | h
  ·exact absurd (by rw [ByteArray.toList_eq]; exact List.length_eq_zero_iff.1 (by simpa using h)) c1
  exact h
 have c1b0 := beq_eq_false_iff_ne.mpr c1
 clear c1
 have hx0 : ∀ h : 0 < a0.size, ((a0[0]'h).toNat : Int) = bt a0 0 := bt_at a0 0
 have qi0 : (0 < (a0.size : Int)) = True := eq_true (by omega)
 have q0 := eq_true hpos
 by_cases c2 : bt a0 0 ≠ 91
 ·rw [if_pos c2] at H
  simp only [Option.some.injEq, Prod.mk.injEq] at H
  obtain ⟨rfl, rfl, rfl⟩ := H
  have c2a : (bt a0 0 != 91) = true := bne_iff_ne.mpr c2
  clear c2
  go_enter Tryz.func14, Tryz.ntmps14
  go_wp2_with fail
  exact bodyPost_ret (v := .tuple #[.slice none 0 0, .int .i64 0, .int .i64 3]) (by simp [results, Tryz.results14, go_sem]) rfl ⟨_, rfl, Kd.R_nil _ _ _ _ _, (Below.refl _ _).alloc (Nat.le_refl _) _⟩
 rw [if_neg c2] at H
 have c2 : bt a0 0 = 91 := Decidable.not_not.1 c2
 rw [c2] at hx0
 by_cases c3 : 1 < (a0.size : Int)
 ·have hx1 : ∀ h : 1 < a0.size, ((a0[1]'h).toNat : Int) = bt a0 1 := bt_at a0 1
  have q1i : (1 < (a0.size : Int)) = True := eq_true c3
  have q1' : (1 < a0.size) = True := eq_true (by omega)
  by_cases c4 : bt a0 1 = 94
  ·rw [c4] at hx1
   simp only [if_pos (show 1 < (a0.size : Int) ∧ bt a0 1 = 94 from ⟨c3, c4⟩)] at H
   clear c2 c4 hpos
   replace H := Option.bind_eq_some_iff.1 H
   obtain ⟨⟨q1, q2, q3⟩, hq, H⟩ := H
   dsimp only at H
   have HL := Aside0.mk hq
   have HREST := Aside0.mk H
   clear hq H
   go_enter Tryz.func14, Tryz.ntmps14
   go_wp2_with fail
   go_loopg [7] k (fun kq s7 wr => ∃ (at_ : Nat) (acc : List S36), s7 = .int .i64 at_ ∧ acc.length ≤ 100000 ∧ Aside0 (bracket_Bracket.l0 kq a0 2 at_ acc = some (q1, q2, q3)) ∧ Aside0 (kq ≤ k) ∧ Aside0 (Go.Proofs.YtheheijhijeljaaGreatDoorX.Col2 w w.heap.size (fun k => k = w.heap.size) wr (acc.map ofRg)))
   case atStart => exact ⟨2, [], rfl, by simp, HL, ⟨Nat.le_refl _⟩, HC0⟩
   clear HL HC0
   obtain ⟨at_, acc, rfl, hacc, HA, HK, HC⟩ := hrel
   cases gk with
   | zero => exact absurd HA.out (by simp [bracket_Bracket.l0])
   | succ k1 =>
    have H := HA.out
    clear HA
    rw [bracket_Bracket.l0] at H
    have hx2 : ∀ h : at_ < a0.size, ((a0[at_]'h).toNat : Int) = bt a0 at_ := bt_at a0 at_
    by_cases d1 : at_ = 2 ∨ ((at_ : Int) < (a0.size : Int) ∧ bt a0 at_ ≠ 93)
    ·rw [if_pos d1] at H
     replace H := Option.bind_eq_some_iff.1 H
     obtain ⟨⟨il, ix, ie⟩, hi, H⟩ := H
     dsimp only at H
     have hil : acc.length + il.length ≤ 100000 := Decidable.byContradiction fun c => by rw [if_neg c] at H; cases H
     rw [if_pos hil] at H
     have HI := Aside0.mk (fun W hc => item_any k1 a0 at_ il ix ie hs w HM.out w.heap.size (Nat.le_refl _) (acc.map ofRg) (by rw [List.length_map]; omega) W hc hi)
     clear hi
     have key : ∀ X : Prop, (at_ = 2 → X) → ((at_ == 2) = false → at_ ≠ 2 → (at_ : Int) < (a0.size : Int) → bt a0 at_ ≠ 93 → X) → X := by
      intro X h1 h2
      by_cases e : at_ = 2
      ·exact h1 e
      exact d1.elim (fun h => absurd h e) (fun h => h2 (beq_eq_false_iff_ne.mpr e) e h.1 h.2)
     clear d1
     by_cases d2 : ie ≠ 0
     ·rw [if_pos d2] at H
      simp only [Option.some.injEq, Prod.mk.injEq] at H
      obtain ⟨rfl, rfl, rfl⟩ := H
      have HR := HREST.out
      rw [if_pos d2] at HR
      simp only [Option.some.injEq, Prod.mk.injEq] at HR
      obtain ⟨rfl, rfl, rfl⟩ := HR
      have d2a : (ie != 0) = true := bne_iff_ne.mpr d2
      clear HREST d2
      apply key
      ·rintro rfl
       clear key hx2
       go_wp2_with fail
       refine (HI.out _ HC.out).mono ?_
       rintro e w1 ⟨rfl, hc1⟩
       have HC1 := Aside0.mk hc1
       obtain ⟨hf1, v1, hv1⟩ := col2_frozen hc1 (Below.refl _ _)
       clear hc1 HC
       go_wp2_with fail
       obtain ⟨v9, c9, R9, B9⟩ := col2_out (col2_nil (Nat.le_refl _) HC1.out)
       exact bodyPost_ret (v := .tuple #[.slice none 0 0, .int .i64 ix, .int .i64 ie]) (by simp [results, Tryz.results14, go_sem, hv1, hf1]) rfl ⟨_, rfl, Kd.R_nil _ _ _ _ _, B9⟩
      intro e1 e2 e3 e4
      clear key
      have e5 : (bt a0 at_ != 93) = true := bne_iff_ne.mpr e4
      have e6 : (at_ < a0.size) = True := eq_true (by omega)
      have e7 : ((at_ : Int) == 2) = false := beq_eq_false_iff_ne.mpr (by omega)
      clear e2 e1
      go_wp2_with fail
      refine (HI.out _ HC.out).mono ?_
      rintro e w1 ⟨rfl, hc1⟩
      have HC1 := Aside0.mk hc1
      obtain ⟨hf1, v1, hv1⟩ := col2_frozen hc1 (Below.refl _ _)
      clear hc1 HC
      go_wp2_with fail
      obtain ⟨v9, c9, R9, B9⟩ := col2_out (col2_nil (Nat.le_refl _) HC1.out)
      exact bodyPost_ret (v := .tuple #[.slice none 0 0, .int .i64 ix, .int .i64 ie]) (by simp [results, Tryz.results14, go_sem, hv1, hf1]) rfl ⟨_, rfl, Kd.R_nil _ _ _ _ _, B9⟩
     rw [if_neg d2] at H
     have d3 : 0 ≤ ix := Decidable.byContradiction fun c => by rw [if_neg c] at H; cases H
     rw [if_pos d3] at H
     have d2' : ie = 0 := Decidable.not_not.1 d2
     subst d2'
     have H' := Aside0.mk H
     have HN := Aside0.mk (show ((ix.toNat : Nat) : Int) = ix by omega)
     clear H d2
     apply key
     ·rintro rfl
      clear key hx2
      go_wp2_with fail
      refine (HI.out _ HC.out).mono ?_
      rintro e w1 ⟨rfl, hc1⟩
      have HC1 := Aside0.mk hc1
      obtain ⟨hf1, v1, hv1⟩ := col2_frozen hc1 (Below.refl _ _)
      clear hc1 HC
      go_wp2_with fail
      go_roundg k1
      case measure => have := HK.out; omega
      case rel => exact ⟨ix.toNat, acc ++ il, by rw [HN.out], by rw [List.length_append]; exact hil, H', ⟨by have := HK.out; omega⟩, by rw [List.map_append]; exact HC1⟩
     intro e1 e2 e3 e4
     clear key
     have e5 : (bt a0 at_ != 93) = true := bne_iff_ne.mpr e4
     have e6 : (at_ < a0.size) = True := eq_true (by omega)
     have e7 : ((at_ : Int) == 2) = false := beq_eq_false_iff_ne.mpr (by omega)
     clear e2 e1
     go_wp2_with fail
     refine (HI.out _ HC.out).mono ?_
     rintro e w1 ⟨rfl, hc1⟩
     have HC1 := Aside0.mk hc1
     obtain ⟨hf1, v1, hv1⟩ := col2_frozen hc1 (Below.refl _ _)
     clear hc1 HC
     go_wp2_with fail
     go_roundg k1
     case measure => have := HK.out; omega
     case rel => exact ⟨ix.toNat, acc ++ il, by rw [HN.out], by rw [List.length_append]; exact hil, H', ⟨by have := HK.out; omega⟩, by rw [List.map_append]; exact HC1⟩
    rw [if_neg d1] at H
    have d2 : at_ ≠ 2 := fun e => d1 (.inl e)
    have e7 : ((at_ : Int) == 2) = false := beq_eq_false_iff_ne.mpr (by omega)
    by_cases d3 : at_ < a0.size
    ·have d4 : bt a0 at_ = 93 := Decidable.byContradiction fun c => d1 (.inr ⟨by omega, c⟩)
     rw [if_neg (by omega)] at H
     simp only [Option.some.injEq, Prod.mk.injEq] at H
     obtain ⟨rfl, rfl, rfl⟩ := H
     have H := HREST.out
     rw [if_neg (by decide)] at H
     rw [d4] at hx2
     have e6 : (at_ < a0.size) = True := eq_true d3
     have e8 : ((a0.size : Int) ≤ (at_ : Int)) = False := eq_false (by omega)
     clear HREST d1 d2 d4
     replace H := Option.bind_eq_some_iff.1 H
     obtain ⟨la, ha, H⟩ := H
     replace H := Option.bind_eq_some_iff.1 H
     obtain ⟨lb, hb, H⟩ := H
     replace H := Option.bind_eq_some_iff.1 H
     obtain ⟨lc, hc, H⟩ := H
     simp only [Option.some.injEq, Prod.mk.injEq] at H
     obtain ⟨rfl, rfl, rfl⟩ := H
     have HNO := Aside0.mk hb
     have HNM := Aside0.mk (fun A c w h1 h2 => ranges_Norm.calls k A c lb lc w h1 h2 hc)
     clear hb hc
     obtain ⟨A0, c0, hcell, hfroz, hle, hC⟩ := col2_reads HC.out
     have hOlt := col2_lt HC.out
     have HC0 := Aside0.mk hC
     have HLE := Aside0.mk hle
     clear hC hle
     by_cases d5 : Go.bits .and .i64 a1 1 ≠ 0
     ·rw [if_pos d5] at ha
      have HCL := Aside0.mk (fun w h1 h2 => fold_Close.calls A0 c0 acc la w h1 h2 ha)
      have d5a : (Go.bits .and .i64 a1 1 != 0) = true := bne_iff_ne.mpr d5
      clear ha d5
      go_wp2_with fail
      refine (HCL.out _ HC0.out HLE.out).mono ?_
      rintro e w1 ⟨v1, rfl, hR1, hb1⟩
      obtain ⟨A1, c1, rfl⟩ := Kd.R_slice hR1
      obtain ⟨hf1, u1, hu1⟩ := col2_frozen HC.out hb1
      have hlt1 : w.heap.size < w1.heap.size := Nat.lt_of_lt_of_le hOlt hb1.size
      have HC1 := Aside0.mk (col2_put (Nat.le_refl _) HC.out hb1 hR1)
      have HP1 := Aside0.mk (put_reads hR1 hOlt (.slice A1 la.length c1))
      clear hR1 hb1 HC hcell hfroz
      have HNN := Aside0.mk (fun A c w h1 h2 => ranges_Not.calls k A c la lb w h1 h2 HNO.out)
      go_wp2_with fail
      refine (HNN.out _ _ _ HP1.out.2 HP1.out.1).mono ?_
      rintro e wy ⟨vy, rfl, hRy, hby⟩
      obtain ⟨Ay, cy, rfl⟩ := Kd.R_slice hRy
      obtain ⟨hfy, uy, huy⟩ := col2_frozen HC1.out hby
      have hlty : w.heap.size < wy.heap.size := Nat.lt_of_lt_of_le (col2_lt HC1.out) hby.size
      have HCy := Aside0.mk (col2_put (Nat.le_refl _) HC1.out hby hRy)
      have HPy := Aside0.mk (put_reads hRy (col2_lt HC1.out) (.slice Ay lb.length cy))
      clear hRy hby
      go_wp2_with fail
      refine (HNM.out _ _ _ HPy.out.2 HPy.out.1).mono ?_
      rintro e wz ⟨vz, rfl, hRz, hbz⟩
      obtain ⟨Az, cz, rfl⟩ := Kd.R_slice hRz
      obtain ⟨hfz, uz, huz⟩ := col2_frozen HCy.out hbz
      have HCz := Aside0.mk (col2_put (Nat.le_refl _) HCy.out hbz hRz)
      clear hRz hbz
      go_wp2_with fail
      obtain ⟨v9, c9, R9, B9⟩ := col2_out HCz.out
      have hv9 : v9 = .slice Az lc.length cz := by
       have h := (World.cell?_setCell_same _ _ (.slice Az lc.length cz) huz)
       rw [c9] at h
       exact Option.some.inj h
      subst hv9
      exact bodyPost_ret (v := .tuple #[.slice Az lc.length cz, .int .i64 (at_ + 1), .int .i64 0]) (by simp [results, Tryz.results14, go_sem, huz, hfz]) rfl ⟨_, rfl, R9, B9⟩
     rw [if_neg d5] at ha
     obtain rfl := Option.some.inj ha
     have d5a : (Go.bits .and .i64 a1 1 != 0) = false := by simpa using d5
     clear ha d5
     have HPA := Aside0.mk (show acc.length ≤ c0 ∧ _ from ⟨HLE.out, HC0.out⟩)
     have HCA := HC
     have HNN := Aside0.mk (fun A c w h1 h2 => ranges_Not.calls k A c acc lb w h1 h2 HNO.out)
     go_wp2_with fail
     refine (HNN.out _ _ _ HPA.out.2 HPA.out.1).mono ?_
     rintro e wy ⟨vy, rfl, hRy, hby⟩
     obtain ⟨Ay, cy, rfl⟩ := Kd.R_slice hRy
     obtain ⟨hfy, uy, huy⟩ := col2_frozen HCA.out hby
     have hlty : w.heap.size < wy.heap.size := Nat.lt_of_lt_of_le (col2_lt HCA.out) hby.size
     have HCy := Aside0.mk (col2_put (Nat.le_refl _) HCA.out hby hRy)
     have HPy := Aside0.mk (put_reads hRy (col2_lt HCA.out) (.slice Ay lb.length cy))
     clear hRy hby
     go_wp2_with fail
     refine (HNM.out _ _ _ HPy.out.2 HPy.out.1).mono ?_
     rintro e wz ⟨vz, rfl, hRz, hbz⟩
     obtain ⟨Az, cz, rfl⟩ := Kd.R_slice hRz
     obtain ⟨hfz, uz, huz⟩ := col2_frozen HCy.out hbz
     have HCz := Aside0.mk (col2_put (Nat.le_refl _) HCy.out hbz hRz)
     clear hRz hbz
     go_wp2_with fail
     obtain ⟨v9, c9, R9, B9⟩ := col2_out HCz.out
     have hv9 : v9 = .slice Az lc.length cz := by
      have h := (World.cell?_setCell_same _ _ (.slice Az lc.length cz) huz)
      rw [c9] at h
      exact Option.some.inj h
     subst hv9
     exact bodyPost_ret (v := .tuple #[.slice Az lc.length cz, .int .i64 (at_ + 1), .int .i64 0]) (by simp [results, Tryz.results14, go_sem, huz, hfz]) rfl ⟨_, rfl, R9, B9⟩
    rw [if_pos (by omega)] at H
    simp only [Option.some.injEq, Prod.mk.injEq] at H
    obtain ⟨rfl, rfl, rfl⟩ := H
    have HR := HREST.out
    rw [if_pos (by decide)] at HR
    simp only [Option.some.injEq, Prod.mk.injEq] at HR
    obtain ⟨rfl, rfl, rfl⟩ := HR
    have e6 : ((at_ : Int) < (a0.size : Int)) = False := eq_false (by omega)
    have e8 : ((a0.size : Int) ≤ (at_ : Int)) = True := eq_true (by omega)
    have e9 : (at_ < a0.size) = False := eq_false d3
    have e10 : (a0.size ≤ at_) = True := eq_true (by omega)
    obtain ⟨hf1, v1, hv1⟩ := col2_frozen HC.out (Below.refl _ _)
    have HC1 := Aside0.mk HC.out
    clear HREST d1 d2 d3
    go_wp2_with fail
    obtain ⟨v9, c9, R9, B9⟩ := col2_out (col2_nil (Nat.le_refl _) HC1.out)
    exact bodyPost_ret (v := .tuple #[.slice none 0 0, .int .i64 a0.size, .int .i64 82]) (by simp [results, Tryz.results14, go_sem, hv1, hf1]) rfl ⟨_, rfl, Kd.R_nil _ _ _ _ _, B9⟩
  simp only [if_neg (show ¬ (1 < (a0.size : Int) ∧ bt a0 1 = 94) from fun h => c4 h.2)] at H
  have c4a : (bt a0 1 == 94) = false := beq_eq_false_iff_ne.mpr c4
  clear c2 c4 hpos
  replace H := Option.bind_eq_some_iff.1 H
  obtain ⟨⟨q1, q2, q3⟩, hq, H⟩ := H
  dsimp only at H
  have HL := Aside0.mk hq
  have HREST := Aside0.mk H
  clear hq H
  go_enter Tryz.func14, Tryz.ntmps14
  go_wp2_with fail
  go_loopg [7] k (fun kq s7 wr => ∃ (at_ : Nat) (acc : List S36), s7 = .int .i64 at_ ∧ acc.length ≤ 100000 ∧ Aside0 (bracket_Bracket.l0 kq a0 1 at_ acc = some (q1, q2, q3)) ∧ Aside0 (kq ≤ k) ∧ Aside0 (Go.Proofs.YtheheijhijeljaaGreatDoorX.Col2 w w.heap.size (fun k => k = w.heap.size) wr (acc.map ofRg)))
  case atStart => exact ⟨1, [], rfl, by simp, HL, ⟨Nat.le_refl _⟩, HC0⟩
  clear HL HC0
  obtain ⟨at_, acc, rfl, hacc, HA, HK, HC⟩ := hrel
  cases gk with
  | zero => exact absurd HA.out (by simp [bracket_Bracket.l0])
  | succ k1 =>
   have H := HA.out
   clear HA
   rw [bracket_Bracket.l0] at H
   have hx2 : ∀ h : at_ < a0.size, ((a0[at_]'h).toNat : Int) = bt a0 at_ := bt_at a0 at_
   by_cases d1 : at_ = 1 ∨ ((at_ : Int) < (a0.size : Int) ∧ bt a0 at_ ≠ 93)
   ·rw [if_pos d1] at H
    replace H := Option.bind_eq_some_iff.1 H
    obtain ⟨⟨il, ix, ie⟩, hi, H⟩ := H
    dsimp only at H
    have hil : acc.length + il.length ≤ 100000 := Decidable.byContradiction fun c => by rw [if_neg c] at H; cases H
    rw [if_pos hil] at H
    have HI := Aside0.mk (fun W hc => item_any k1 a0 at_ il ix ie hs w HM.out w.heap.size (Nat.le_refl _) (acc.map ofRg) (by rw [List.length_map]; omega) W hc hi)
    clear hi
    have key : ∀ X : Prop, (at_ = 1 → X) → ((at_ == 1) = false → at_ ≠ 1 → (at_ : Int) < (a0.size : Int) → bt a0 at_ ≠ 93 → X) → X := by
     intro X h1 h2
     by_cases e : at_ = 1
     ·exact h1 e
     exact d1.elim (fun h => absurd h e) (fun h => h2 (beq_eq_false_iff_ne.mpr e) e h.1 h.2)
    clear d1
    by_cases d2 : ie ≠ 0
    ·rw [if_pos d2] at H
     simp only [Option.some.injEq, Prod.mk.injEq] at H
     obtain ⟨rfl, rfl, rfl⟩ := H
     have HR := HREST.out
     rw [if_pos d2] at HR
     simp only [Option.some.injEq, Prod.mk.injEq] at HR
     obtain ⟨rfl, rfl, rfl⟩ := HR
     have d2a : (ie != 0) = true := bne_iff_ne.mpr d2
     clear HREST d2
     apply key
     ·rintro rfl
      clear key hx2
      go_wp2_with fail
      refine (HI.out _ HC.out).mono ?_
      rintro e w1 ⟨rfl, hc1⟩
      have HC1 := Aside0.mk hc1
      obtain ⟨hf1, v1, hv1⟩ := col2_frozen hc1 (Below.refl _ _)
      clear hc1 HC
      go_wp2_with fail
      obtain ⟨v9, c9, R9, B9⟩ := col2_out (col2_nil (Nat.le_refl _) HC1.out)
      exact bodyPost_ret (v := .tuple #[.slice none 0 0, .int .i64 ix, .int .i64 ie]) (by simp [results, Tryz.results14, go_sem, hv1, hf1]) rfl ⟨_, rfl, Kd.R_nil _ _ _ _ _, B9⟩
     intro e1 e2 e3 e4
     clear key
     have e5 : (bt a0 at_ != 93) = true := bne_iff_ne.mpr e4
     have e6 : (at_ < a0.size) = True := eq_true (by omega)
     have e7 : ((at_ : Int) == 1) = false := beq_eq_false_iff_ne.mpr (by omega)
     clear e2 e1
     go_wp2_with fail
     refine (HI.out _ HC.out).mono ?_
     rintro e w1 ⟨rfl, hc1⟩
     have HC1 := Aside0.mk hc1
     obtain ⟨hf1, v1, hv1⟩ := col2_frozen hc1 (Below.refl _ _)
     clear hc1 HC
     go_wp2_with fail
     obtain ⟨v9, c9, R9, B9⟩ := col2_out (col2_nil (Nat.le_refl _) HC1.out)
     exact bodyPost_ret (v := .tuple #[.slice none 0 0, .int .i64 ix, .int .i64 ie]) (by simp [results, Tryz.results14, go_sem, hv1, hf1]) rfl ⟨_, rfl, Kd.R_nil _ _ _ _ _, B9⟩
    rw [if_neg d2] at H
    have d3 : 0 ≤ ix := Decidable.byContradiction fun c => by rw [if_neg c] at H; cases H
    rw [if_pos d3] at H
    have d2' : ie = 0 := Decidable.not_not.1 d2
    subst d2'
    have H' := Aside0.mk H
    have HN := Aside0.mk (show ((ix.toNat : Nat) : Int) = ix by omega)
    clear H d2
    apply key
    ·rintro rfl
     clear key hx2
     go_wp2_with fail
     refine (HI.out _ HC.out).mono ?_
     rintro e w1 ⟨rfl, hc1⟩
     have HC1 := Aside0.mk hc1
     obtain ⟨hf1, v1, hv1⟩ := col2_frozen hc1 (Below.refl _ _)
     clear hc1 HC
     go_wp2_with fail
     go_roundg k1
     case measure => have := HK.out; omega
     case rel => exact ⟨ix.toNat, acc ++ il, by rw [HN.out], by rw [List.length_append]; exact hil, H', ⟨by have := HK.out; omega⟩, by rw [List.map_append]; exact HC1⟩
    intro e1 e2 e3 e4
    clear key
    have e5 : (bt a0 at_ != 93) = true := bne_iff_ne.mpr e4
    have e6 : (at_ < a0.size) = True := eq_true (by omega)
    have e7 : ((at_ : Int) == 1) = false := beq_eq_false_iff_ne.mpr (by omega)
    clear e2 e1
    go_wp2_with fail
    refine (HI.out _ HC.out).mono ?_
    rintro e w1 ⟨rfl, hc1⟩
    have HC1 := Aside0.mk hc1
    obtain ⟨hf1, v1, hv1⟩ := col2_frozen hc1 (Below.refl _ _)
    clear hc1 HC
    go_wp2_with fail
    go_roundg k1
    case measure => have := HK.out; omega
    case rel => exact ⟨ix.toNat, acc ++ il, by rw [HN.out], by rw [List.length_append]; exact hil, H', ⟨by have := HK.out; omega⟩, by rw [List.map_append]; exact HC1⟩
   rw [if_neg d1] at H
   have d2 : at_ ≠ 1 := fun e => d1 (.inl e)
   have e7 : ((at_ : Int) == 1) = false := beq_eq_false_iff_ne.mpr (by omega)
   by_cases d3 : at_ < a0.size
   ·have d4 : bt a0 at_ = 93 := Decidable.byContradiction fun c => d1 (.inr ⟨by omega, c⟩)
    rw [if_neg (by omega)] at H
    simp only [Option.some.injEq, Prod.mk.injEq] at H
    obtain ⟨rfl, rfl, rfl⟩ := H
    have H := HREST.out
    rw [if_neg (by decide)] at H
    rw [d4] at hx2
    have e6 : (at_ < a0.size) = True := eq_true d3
    have e8 : ((a0.size : Int) ≤ (at_ : Int)) = False := eq_false (by omega)
    clear HREST d1 d2 d4
    replace H := Option.bind_eq_some_iff.1 H
    obtain ⟨la, ha, H⟩ := H
    replace H := Option.bind_eq_some_iff.1 H
    obtain ⟨lb, hb, H⟩ := H
    replace H := Option.bind_eq_some_iff.1 H
    obtain ⟨lc, hc, H⟩ := H
    simp only [Option.some.injEq, Prod.mk.injEq] at H
    obtain ⟨rfl, rfl, rfl⟩ := H
    have HNO := Aside0.mk hb
    have HNM := Aside0.mk (fun A c w h1 h2 => ranges_Norm.calls k A c lb lc w h1 h2 hc)
    clear hb hc
    obtain ⟨A0, c0, hcell, hfroz, hle, hC⟩ := col2_reads HC.out
    have hOlt := col2_lt HC.out
    have HC0 := Aside0.mk hC
    have HLE := Aside0.mk hle
    clear hC hle
    by_cases d5 : Go.bits .and .i64 a1 1 ≠ 0
    ·rw [if_pos d5] at ha
     have HCL := Aside0.mk (fun w h1 h2 => fold_Close.calls A0 c0 acc la w h1 h2 ha)
     have d5a : (Go.bits .and .i64 a1 1 != 0) = true := bne_iff_ne.mpr d5
     clear ha d5
     go_wp2_with fail
     refine (HCL.out _ HC0.out HLE.out).mono ?_
     rintro e w1 ⟨v1, rfl, hR1, hb1⟩
     obtain ⟨A1, c1, rfl⟩ := Kd.R_slice hR1
     obtain ⟨hf1, u1, hu1⟩ := col2_frozen HC.out hb1
     have hlt1 : w.heap.size < w1.heap.size := Nat.lt_of_lt_of_le hOlt hb1.size
     have HC1 := Aside0.mk (col2_put (Nat.le_refl _) HC.out hb1 hR1)
     have HP1 := Aside0.mk (put_reads hR1 hOlt (.slice A1 la.length c1))
     clear hR1 hb1 HC hcell hfroz
     obtain rfl := Option.some.inj HNO.out
     go_wp2_with fail
     refine (HNM.out _ _ _ HP1.out.2 HP1.out.1).mono ?_
     rintro e wz ⟨vz, rfl, hRz, hbz⟩
     obtain ⟨Az, cz, rfl⟩ := Kd.R_slice hRz
     obtain ⟨hfz, uz, huz⟩ := col2_frozen HC1.out hbz
     have HCz := Aside0.mk (col2_put (Nat.le_refl _) HC1.out hbz hRz)
     clear hRz hbz
     go_wp2_with fail
     obtain ⟨v9, c9, R9, B9⟩ := col2_out HCz.out
     have hv9 : v9 = .slice Az lc.length cz := by
      have h := (World.cell?_setCell_same _ _ (.slice Az lc.length cz) huz)
      rw [c9] at h
      exact Option.some.inj h
     subst hv9
     exact bodyPost_ret (v := .tuple #[.slice Az lc.length cz, .int .i64 (at_ + 1), .int .i64 0]) (by simp [results, Tryz.results14, go_sem, huz, hfz]) rfl ⟨_, rfl, R9, B9⟩
    rw [if_neg d5] at ha
    obtain rfl := Option.some.inj ha
    have d5a : (Go.bits .and .i64 a1 1 != 0) = false := by simpa using d5
    clear ha d5
    obtain rfl := Option.some.inj HNO.out
    have HPA := Aside0.mk (show acc.length ≤ c0 ∧ _ from ⟨HLE.out, HC0.out⟩)
    have HCA := HC
    go_wp2_with fail
    refine (HNM.out _ _ _ HPA.out.2 HPA.out.1).mono ?_
    rintro e wz ⟨vz, rfl, hRz, hbz⟩
    obtain ⟨Az, cz, rfl⟩ := Kd.R_slice hRz
    obtain ⟨hfz, uz, huz⟩ := col2_frozen HCA.out hbz
    have HCz := Aside0.mk (col2_put (Nat.le_refl _) HCA.out hbz hRz)
    clear hRz hbz
    go_wp2_with fail
    obtain ⟨v9, c9, R9, B9⟩ := col2_out HCz.out
    have hv9 : v9 = .slice Az lc.length cz := by
     have h := (World.cell?_setCell_same _ _ (.slice Az lc.length cz) huz)
     rw [c9] at h
     exact Option.some.inj h
    subst hv9
    exact bodyPost_ret (v := .tuple #[.slice Az lc.length cz, .int .i64 (at_ + 1), .int .i64 0]) (by simp [results, Tryz.results14, go_sem, huz, hfz]) rfl ⟨_, rfl, R9, B9⟩
   rw [if_pos (by omega)] at H
   simp only [Option.some.injEq, Prod.mk.injEq] at H
   obtain ⟨rfl, rfl, rfl⟩ := H
   have HR := HREST.out
   rw [if_pos (by decide)] at HR
   simp only [Option.some.injEq, Prod.mk.injEq] at HR
   obtain ⟨rfl, rfl, rfl⟩ := HR
   have e6 : ((at_ : Int) < (a0.size : Int)) = False := eq_false (by omega)
   have e8 : ((a0.size : Int) ≤ (at_ : Int)) = True := eq_true (by omega)
   have e9 : (at_ < a0.size) = False := eq_false d3
   have e10 : (a0.size ≤ at_) = True := eq_true (by omega)
   obtain ⟨hf1, v1, hv1⟩ := col2_frozen HC.out (Below.refl _ _)
   have HC1 := Aside0.mk HC.out
   clear HREST d1 d2 d3
   go_wp2_with fail
   obtain ⟨v9, c9, R9, B9⟩ := col2_out (col2_nil (Nat.le_refl _) HC1.out)
   exact bodyPost_ret (v := .tuple #[.slice none 0 0, .int .i64 a0.size, .int .i64 82]) (by simp [results, Tryz.results14, go_sem, hv1, hf1]) rfl ⟨_, rfl, Kd.R_nil _ _ _ _ _, B9⟩
 simp only [if_neg (show ¬ (1 < (a0.size : Int) ∧ bt a0 1 = 94) from fun h => c3 h.1)] at H
 have q1i : (1 < (a0.size : Int)) = False := eq_false c3
 have q1' : (1 < a0.size) = False := eq_false (by omega)
 clear c2 hpos
 replace H := Option.bind_eq_some_iff.1 H
 obtain ⟨⟨q1, q2, q3⟩, hq, H⟩ := H
 dsimp only at H
 have HL := Aside0.mk hq
 have HREST := Aside0.mk H
 clear hq H
 go_enter Tryz.func14, Tryz.ntmps14
 go_wp2_with fail
 go_loopg [7] k (fun kq s7 wr => ∃ (at_ : Nat) (acc : List S36), s7 = .int .i64 at_ ∧ acc.length ≤ 100000 ∧ Aside0 (bracket_Bracket.l0 kq a0 1 at_ acc = some (q1, q2, q3)) ∧ Aside0 (kq ≤ k) ∧ Aside0 (Go.Proofs.YtheheijhijeljaaGreatDoorX.Col2 w w.heap.size (fun k => k = w.heap.size) wr (acc.map ofRg)))
 case atStart => exact ⟨1, [], rfl, by simp, HL, ⟨Nat.le_refl _⟩, HC0⟩
 clear HL HC0
 obtain ⟨at_, acc, rfl, hacc, HA, HK, HC⟩ := hrel
 cases gk with
 | zero => exact absurd HA.out (by simp [bracket_Bracket.l0])
 | succ k1 =>
  have H := HA.out
  clear HA
  rw [bracket_Bracket.l0] at H
  have hx2 : ∀ h : at_ < a0.size, ((a0[at_]'h).toNat : Int) = bt a0 at_ := bt_at a0 at_
  by_cases d1 : at_ = 1 ∨ ((at_ : Int) < (a0.size : Int) ∧ bt a0 at_ ≠ 93)
  ·rw [if_pos d1] at H
   replace H := Option.bind_eq_some_iff.1 H
   obtain ⟨⟨il, ix, ie⟩, hi, H⟩ := H
   dsimp only at H
   have hil : acc.length + il.length ≤ 100000 := Decidable.byContradiction fun c => by rw [if_neg c] at H; cases H
   rw [if_pos hil] at H
   have HI := Aside0.mk (fun W hc => item_any k1 a0 at_ il ix ie hs w HM.out w.heap.size (Nat.le_refl _) (acc.map ofRg) (by rw [List.length_map]; omega) W hc hi)
   clear hi
   have key : ∀ X : Prop, (at_ = 1 → X) → ((at_ == 1) = false → at_ ≠ 1 → (at_ : Int) < (a0.size : Int) → bt a0 at_ ≠ 93 → X) → X := by
    intro X h1 h2
    by_cases e : at_ = 1
    ·exact h1 e
    exact d1.elim (fun h => absurd h e) (fun h => h2 (beq_eq_false_iff_ne.mpr e) e h.1 h.2)
   clear d1
   by_cases d2 : ie ≠ 0
   ·rw [if_pos d2] at H
    simp only [Option.some.injEq, Prod.mk.injEq] at H
    obtain ⟨rfl, rfl, rfl⟩ := H
    have HR := HREST.out
    rw [if_pos d2] at HR
    simp only [Option.some.injEq, Prod.mk.injEq] at HR
    obtain ⟨rfl, rfl, rfl⟩ := HR
    have d2a : (ie != 0) = true := bne_iff_ne.mpr d2
    clear HREST d2
    apply key
    ·rintro rfl
     clear key hx2
     go_wp2_with fail
     refine (HI.out _ HC.out).mono ?_
     rintro e w1 ⟨rfl, hc1⟩
     have HC1 := Aside0.mk hc1
     obtain ⟨hf1, v1, hv1⟩ := col2_frozen hc1 (Below.refl _ _)
     clear hc1 HC
     go_wp2_with fail
     obtain ⟨v9, c9, R9, B9⟩ := col2_out (col2_nil (Nat.le_refl _) HC1.out)
     exact bodyPost_ret (v := .tuple #[.slice none 0 0, .int .i64 ix, .int .i64 ie]) (by simp [results, Tryz.results14, go_sem, hv1, hf1]) rfl ⟨_, rfl, Kd.R_nil _ _ _ _ _, B9⟩
    intro e1 e2 e3 e4
    clear key
    have e5 : (bt a0 at_ != 93) = true := bne_iff_ne.mpr e4
    have e6 : (at_ < a0.size) = True := eq_true (by omega)
    have e7 : ((at_ : Int) == 1) = false := beq_eq_false_iff_ne.mpr (by omega)
    clear e2 e1
    go_wp2_with fail
    refine (HI.out _ HC.out).mono ?_
    rintro e w1 ⟨rfl, hc1⟩
    have HC1 := Aside0.mk hc1
    obtain ⟨hf1, v1, hv1⟩ := col2_frozen hc1 (Below.refl _ _)
    clear hc1 HC
    go_wp2_with fail
    obtain ⟨v9, c9, R9, B9⟩ := col2_out (col2_nil (Nat.le_refl _) HC1.out)
    exact bodyPost_ret (v := .tuple #[.slice none 0 0, .int .i64 ix, .int .i64 ie]) (by simp [results, Tryz.results14, go_sem, hv1, hf1]) rfl ⟨_, rfl, Kd.R_nil _ _ _ _ _, B9⟩
   rw [if_neg d2] at H
   have d3 : 0 ≤ ix := Decidable.byContradiction fun c => by rw [if_neg c] at H; cases H
   rw [if_pos d3] at H
   have d2' : ie = 0 := Decidable.not_not.1 d2
   subst d2'
   have H' := Aside0.mk H
   have HN := Aside0.mk (show ((ix.toNat : Nat) : Int) = ix by omega)
   clear H d2
   apply key
   ·rintro rfl
    clear key hx2
    go_wp2_with fail
    refine (HI.out _ HC.out).mono ?_
    rintro e w1 ⟨rfl, hc1⟩
    have HC1 := Aside0.mk hc1
    obtain ⟨hf1, v1, hv1⟩ := col2_frozen hc1 (Below.refl _ _)
    clear hc1 HC
    go_wp2_with fail
    go_roundg k1
    case measure => have := HK.out; omega
    case rel => exact ⟨ix.toNat, acc ++ il, by rw [HN.out], by rw [List.length_append]; exact hil, H', ⟨by have := HK.out; omega⟩, by rw [List.map_append]; exact HC1⟩
   intro e1 e2 e3 e4
   clear key
   have e5 : (bt a0 at_ != 93) = true := bne_iff_ne.mpr e4
   have e6 : (at_ < a0.size) = True := eq_true (by omega)
   have e7 : ((at_ : Int) == 1) = false := beq_eq_false_iff_ne.mpr (by omega)
   clear e2 e1
   go_wp2_with fail
   refine (HI.out _ HC.out).mono ?_
   rintro e w1 ⟨rfl, hc1⟩
   have HC1 := Aside0.mk hc1
   obtain ⟨hf1, v1, hv1⟩ := col2_frozen hc1 (Below.refl _ _)
   clear hc1 HC
   go_wp2_with fail
   go_roundg k1
   case measure => have := HK.out; omega
   case rel => exact ⟨ix.toNat, acc ++ il, by rw [HN.out], by rw [List.length_append]; exact hil, H', ⟨by have := HK.out; omega⟩, by rw [List.map_append]; exact HC1⟩
  rw [if_neg d1] at H
  have d2 : at_ ≠ 1 := fun e => d1 (.inl e)
  have e7 : ((at_ : Int) == 1) = false := beq_eq_false_iff_ne.mpr (by omega)
  by_cases d3 : at_ < a0.size
  ·have d4 : bt a0 at_ = 93 := Decidable.byContradiction fun c => d1 (.inr ⟨by omega, c⟩)
   rw [if_neg (by omega)] at H
   simp only [Option.some.injEq, Prod.mk.injEq] at H
   obtain ⟨rfl, rfl, rfl⟩ := H
   have H := HREST.out
   rw [if_neg (by decide)] at H
   rw [d4] at hx2
   have e6 : (at_ < a0.size) = True := eq_true d3
   have e8 : ((a0.size : Int) ≤ (at_ : Int)) = False := eq_false (by omega)
   clear HREST d1 d2 d4
   replace H := Option.bind_eq_some_iff.1 H
   obtain ⟨la, ha, H⟩ := H
   replace H := Option.bind_eq_some_iff.1 H
   obtain ⟨lb, hb, H⟩ := H
   replace H := Option.bind_eq_some_iff.1 H
   obtain ⟨lc, hc, H⟩ := H
   simp only [Option.some.injEq, Prod.mk.injEq] at H
   obtain ⟨rfl, rfl, rfl⟩ := H
   have HNO := Aside0.mk hb
   have HNM := Aside0.mk (fun A c w h1 h2 => ranges_Norm.calls k A c lb lc w h1 h2 hc)
   clear hb hc
   obtain ⟨A0, c0, hcell, hfroz, hle, hC⟩ := col2_reads HC.out
   have hOlt := col2_lt HC.out
   have HC0 := Aside0.mk hC
   have HLE := Aside0.mk hle
   clear hC hle
   by_cases d5 : Go.bits .and .i64 a1 1 ≠ 0
   ·rw [if_pos d5] at ha
    have HCL := Aside0.mk (fun w h1 h2 => fold_Close.calls A0 c0 acc la w h1 h2 ha)
    have d5a : (Go.bits .and .i64 a1 1 != 0) = true := bne_iff_ne.mpr d5
    clear ha d5
    go_wp2_with fail
    refine (HCL.out _ HC0.out HLE.out).mono ?_
    rintro e w1 ⟨v1, rfl, hR1, hb1⟩
    obtain ⟨A1, c1, rfl⟩ := Kd.R_slice hR1
    obtain ⟨hf1, u1, hu1⟩ := col2_frozen HC.out hb1
    have hlt1 : w.heap.size < w1.heap.size := Nat.lt_of_lt_of_le hOlt hb1.size
    have HC1 := Aside0.mk (col2_put (Nat.le_refl _) HC.out hb1 hR1)
    have HP1 := Aside0.mk (put_reads hR1 hOlt (.slice A1 la.length c1))
    clear hR1 hb1 HC hcell hfroz
    obtain rfl := Option.some.inj HNO.out
    go_wp2_with fail
    refine (HNM.out _ _ _ HP1.out.2 HP1.out.1).mono ?_
    rintro e wz ⟨vz, rfl, hRz, hbz⟩
    obtain ⟨Az, cz, rfl⟩ := Kd.R_slice hRz
    obtain ⟨hfz, uz, huz⟩ := col2_frozen HC1.out hbz
    have HCz := Aside0.mk (col2_put (Nat.le_refl _) HC1.out hbz hRz)
    clear hRz hbz
    go_wp2_with fail
    obtain ⟨v9, c9, R9, B9⟩ := col2_out HCz.out
    have hv9 : v9 = .slice Az lc.length cz := by
     have h := (World.cell?_setCell_same _ _ (.slice Az lc.length cz) huz)
     rw [c9] at h
     exact Option.some.inj h
    subst hv9
    exact bodyPost_ret (v := .tuple #[.slice Az lc.length cz, .int .i64 (at_ + 1), .int .i64 0]) (by simp [results, Tryz.results14, go_sem, huz, hfz]) rfl ⟨_, rfl, R9, B9⟩
   rw [if_neg d5] at ha
   obtain rfl := Option.some.inj ha
   have d5a : (Go.bits .and .i64 a1 1 != 0) = false := by simpa using d5
   clear ha d5
   obtain rfl := Option.some.inj HNO.out
   have HPA := Aside0.mk (show acc.length ≤ c0 ∧ _ from ⟨HLE.out, HC0.out⟩)
   have HCA := HC
   go_wp2_with fail
   refine (HNM.out _ _ _ HPA.out.2 HPA.out.1).mono ?_
   rintro e wz ⟨vz, rfl, hRz, hbz⟩
   obtain ⟨Az, cz, rfl⟩ := Kd.R_slice hRz
   obtain ⟨hfz, uz, huz⟩ := col2_frozen HCA.out hbz
   have HCz := Aside0.mk (col2_put (Nat.le_refl _) HCA.out hbz hRz)
   clear hRz hbz
   go_wp2_with fail
   obtain ⟨v9, c9, R9, B9⟩ := col2_out HCz.out
   have hv9 : v9 = .slice Az lc.length cz := by
    have h := (World.cell?_setCell_same _ _ (.slice Az lc.length cz) huz)
    rw [c9] at h
    exact Option.some.inj h
   subst hv9
   exact bodyPost_ret (v := .tuple #[.slice Az lc.length cz, .int .i64 (at_ + 1), .int .i64 0]) (by simp [results, Tryz.results14, go_sem, huz, hfz]) rfl ⟨_, rfl, R9, B9⟩
  rw [if_pos (by omega)] at H
  simp only [Option.some.injEq, Prod.mk.injEq] at H
  obtain ⟨rfl, rfl, rfl⟩ := H
  have HR := HREST.out
  rw [if_pos (by decide)] at HR
  simp only [Option.some.injEq, Prod.mk.injEq] at HR
  obtain ⟨rfl, rfl, rfl⟩ := HR
  have e6 : ((at_ : Int) < (a0.size : Int)) = False := eq_false (by omega)
  have e8 : ((a0.size : Int) ≤ (at_ : Int)) = True := eq_true (by omega)
  have e9 : (at_ < a0.size) = False := eq_false d3
  have e10 : (a0.size ≤ at_) = True := eq_true (by omega)
  obtain ⟨hf1, v1, hv1⟩ := col2_frozen HC.out (Below.refl _ _)
  have HC1 := Aside0.mk HC.out
  clear HREST d1 d2 d3
  go_wp2_with fail
  obtain ⟨v9, c9, R9, B9⟩ := col2_out (col2_nil (Nat.le_refl _) HC1.out)
  exact bodyPost_ret (v := .tuple #[.slice none 0 0, .int .i64 a0.size, .int .i64 82]) (by simp [results, Tryz.results14, go_sem, hv1, hf1]) rfl ⟨_, rfl, Kd.R_nil _ _ _ _ _, B9⟩
end Go.Proofs.YtheheijhijeljaaGreatDoor.HBracketReads

