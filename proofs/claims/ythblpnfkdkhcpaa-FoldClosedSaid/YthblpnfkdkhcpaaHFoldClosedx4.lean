-- Made by wip/hyb (a program of this session over the kit's print); its parts marked 'own text' are typed by hand.
import Derived.Test.YthblpnfkdkhcpaaHFoldClosedx0
import Derived.Test.YthblpnfkdkhcpaaHFoldClosedx1
import Derived.Test.YthblpnfkdkhcpaaHFoldClosedx2
import Derived.Test.YthblpnfkdkhcpaaHFoldClosedx3
namespace Go.Proofs.Ythblpnfkdkhcpaa.HFoldClosed
open Go.RowKit Go.Proofs.YthblpnfkdkhcpaaW.PrintWords Go.Proofs.YthblpnfkdkhcpaaW.PrintLast Go.Proofs.YthblpnfkdkhcpaaW.PrintMore
attribute [local go_sem] max2_int min2_int max_two min_two max_three min_three max_four min_four   -- for this text's walks alone
set_option linter.unusedVariables false
set_option linter.unusedSimpArgs false

attribute [local go_sem high] eqA55
/-! own text: what ranges.Norm comes to -/
section
open Go.Proofs.YthblpnfkdkhcpaaX
theorem wrap_rg {x : Int} (h0 : -9223372036854775808 ≤ x) (h1 : x ≤ 9223372036854775807) : wrap64 x = x := by
  unfold wrap64
  omega
theorem mx_rg (a b : Int) : mx a b = max a b := by unfold mx; split <;> omega
theorem mn_rg (a b : Int) : mn a b = min a b := by unfold mn; split <;> omega
theorem rd_rg (s : List (Int × Int)) (i : Nat) (h : i < s.length) : rd_T55 (s.map toRg) (i : Int) = toRg s[i] := by
  simp [rd_T55, h]
theorem norm_l1 (s : List (Int × Int)) (hs : ∀ x ∈ s, 0 ≤ x.1 ∧ x.1 ≤ x.2 ∧ x.2 ≤ 1114111) (hn : s.length ≤ 1000000) (d : Nat) : ∀ (i : Nat) (p : List (Int × Int)) (c : Int × Int), i ≤ s.length → s.length - i = d → p.length + d ≤ 1000000 → 0 ≤ c.2 → c.2 ≤ 1114111 →
    Ev (fun k => ranges_Norm.l1 k ((p ++ [c]).map toRg) (s.map toRg) (s.length : Int) i) ((p ++ go1 c (s.drop i)).map toRg) := by
  induction d with
  | zero =>
    intro i p c hi hd hp h0 h1
    have e : i = s.length := by omega
    subst e
    refine Ev.step (fun k => ?_) (Ev.now _)
    simp only [ranges_Norm.l1]
    rw [if_neg (by omega), List.drop_of_length_le (Nat.le_refl _)]
    rfl
  | succ d ih =>
    intro i p c hi hd hp h0 h1
    have hlt : i < s.length := by omega
    have hx := hs _ (List.getElem_mem hlt)
    have hlen : (((p ++ [c]).map toRg).length : Int) = p.length + 1 := by simp
    have hlast : rd_T55 ((p ++ [c]).map toRg) (p.length : Int) = toRg c := by
      rw [rd_rg (p ++ [c]) p.length (by simp)]; simp
    have hstep : ∀ k, ranges_Norm.l1 (k + 1) ((p ++ [c]).map toRg) (s.map toRg) (s.length : Int) i = if s[i].1 ≤ c.2 + 1 then ranges_Norm.l1 k ((p ++ [(c.1, max c.2 s[i].2)]).map toRg) (s.map toRg) (s.length : Int) ((i + 1 : Nat) : Int) else ranges_Norm.l1 k (((p ++ [c]) ++ [s[i]]).map toRg) (s.map toRg) (s.length : Int) ((i + 1 : Nat) : Int) := by
      intro k
      simp only [ranges_Norm.l1]
      rw [if_pos (by omega), if_pos (by omega), if_pos (by simp; omega), hlen, if_pos (by omega), wrap_rg (x := (p.length : Int) + 1 - 1) (by omega) (by omega), show (p.length : Int) + 1 - 1 = p.length by omega, if_pos (by omega), if_pos (by omega), hlast, rd_rg s i hlt]
      rw [show (toRg c).f1 = c.2 from rfl, show (toRg c).f0 = c.1 from rfl, show (toRg s[i]).f0 = s[i].1 from rfl, show (toRg s[i]).f1 = s[i].2 from rfl, wrap_rg (x := c.2 + 1) (by omega) (by omega), wrap_rg (x := (i : Int) + 1) (by omega) (by omega), show (i : Int) + 1 = ((i + 1 : Nat) : Int) by omega, mx_rg]
      have hset : ((p ++ [c]).map toRg).set (p.length : Int).toNat (⟨c.1, max c.2 s[i].2⟩ : S55) = (p ++ [(c.1, max c.2 s[i].2)]).map toRg := by
        rw [Int.toNat_natCast, List.map_append, List.map_append, List.set_append_right _ _ (by simp)]
        simp [toRg]
      have happ : (p ++ [c]).map toRg ++ [(⟨s[i].1, s[i].2⟩ : S55)] = ((p ++ [c]) ++ [s[i]]).map toRg := by simp [toRg]
      rw [hset, if_pos (c := (List.map toRg (p ++ [c])).length < 8796093022208) (by simp; omega), happ]
    have hgo : go1 c (s.drop i) = if s[i].1 ≤ c.2 + 1 then go1 (c.1, max c.2 s[i].2) (s.drop (i + 1)) else c :: go1 s[i] (s.drop (i + 1)) := by
      rw [List.drop_eq_getElem_cons hlt]; rfl
    rw [hgo]
    by_cases h : s[i].1 ≤ c.2 + 1
    · rw [if_pos h]
      exact Ev.step (fun k => by rw [hstep k, if_pos h]) (ih (i + 1) p (c.1, max c.2 s[i].2) (by omega) (by omega) (by omega) (by show 0 ≤ max c.2 s[i].2; omega) (by show max c.2 s[i].2 ≤ 1114111; omega))
    · rw [if_neg h]
      have := ih (i + 1) (p ++ [c]) s[i] (by omega) (by omega) (by simp; omega) (by omega) (by omega)
      rw [show p ++ c :: go1 s[i] (s.drop (i + 1)) = (p ++ [c]) ++ go1 s[i] (s.drop (i + 1)) by simp]
      exact Ev.step (fun k => by rw [hstep k, if_neg h]) this
theorem norm_merge (s : List (Int × Int)) (hs : ∀ x ∈ s, 0 ≤ x.1 ∧ x.1 ≤ x.2 ∧ x.2 ≤ 1114111) (hn : s.length ≤ 900000) :
    Ev (fun k => ranges_Norm.l1 k ([] : List S55) (s.map toRg) (s.length : Int) 0) ((mergeL s).map toRg) := by
  cases s with
  | nil =>
    refine Ev.step (fun k => ?_) (Ev.now _)
    simp only [ranges_Norm.l1]
    rw [if_neg (by simp)]
    rfl
  | cons x t =>
    have hx := hs x (by simp)
    have h := norm_l1 (x :: t) hs (by omega) t.length 1 [] x (by simp) (by simp) (by simp at hn ⊢; omega) (by omega) (by omega)
    refine Ev.step (fun k => ?_) h
    simp only [ranges_Norm.l1]
    rw [if_pos (by first | omega | (simp; done) | (simp; omega)), if_pos (by omega), if_pos (by first | omega | (simp; done) | (simp; omega)), if_neg (by simp), if_pos (by simp), show ((0 : Int)) = ((0 : Nat) : Int) from rfl, rd_rg (x :: t) 0 (by simp), wrap_rg (x := ((0 : Nat) : Int) + 1) (by omega) (by omega)]
    rfl
theorem norm_l0 (l : List S55) (hn : l.length ≤ 900000) (d : Nat) : ∀ (i : Nat) (x3 : List (Int × Int)), i ≤ l.length → l.length - i = d → x3.length + d ≤ 900000 → (∀ x ∈ x3, 0 ≤ x.1 ∧ x.1 ≤ x.2 ∧ x.2 ≤ 1114111) →
    Ev (fun k => ranges_Norm.l0 k (x3.map toRg) l (l.length : Int) i) ((mergeL (sortLo (x3 ++ ((l.drop i).map ofRg).flatMap clip))).map toRg) := by
  induction d with
  | zero =>
    intro i x3 hi hd hx hr
    have e : i = l.length := by omega
    subst e
    rw [List.drop_of_length_le (Nat.le_refl _), List.map_nil, List.flatMap_nil, List.append_nil]
    have hp := sortLo_perm x3
    have hm := norm_merge (sortLo x3) (fun x hx => hr x (hp.mem_iff.1 hx)) (by rw [hp.length_eq]; omega)
    refine Ev.step (fun k => ?_) hm
    simp only [ranges_Norm.l0]
    rw [if_neg (by omega)]
    unfold ext_sortRange.f
    rw [if_pos (by simp; omega)]
    have e : (x3.map toRg).map ofRg = x3 := by rw [List.map_map]; exact List.map_id'' (fun x => ofRg_toRg x) x3
    rw [e, Option.bind_some, show ((x3.map toRg).length : Int) = ((sortLo x3).length : Int) by rw [hp.length_eq]; simp]
  | succ d ih =>
    intro i x3 hi hd hx hr
    have hlt : i < l.length := by omega
    have hrd : rd_T55 l (i : Int) = l[i] := by simp [rd_T55, hlt]
    rw [List.drop_eq_getElem_cons hlt, List.map_cons, List.flatMap_cons, ← List.append_assoc]
    have hclip : clip (ofRg l[i]) = if max l[i].f0 0 ≤ min l[i].f1 1114111 then [(max l[i].f0 0, min l[i].f1 1114111)] else [] := rfl
    have hlc : (clip (ofRg l[i])).length ≤ 1 := by rw [hclip]; split <;> simp
    have h := ih (i + 1) (x3 ++ clip (ofRg l[i])) (by omega) (by omega) (by rw [List.length_append]; omega) (fun x hx' => by
      rcases List.mem_append.1 hx' with h | h
      · exact hr x h
      · exact clip_range (l := [ofRg l[i]]) (by simpa using h))
    refine Ev.step (fun k => ?_) h
    simp only [ranges_Norm.l0]
    rw [if_pos (by omega), if_pos (by omega), if_pos (by omega), hrd, mx_rg, mn_rg, wrap_rg (x := (i : Int) + 1) (by omega) (by omega), show (i : Int) + 1 = ((i + 1 : Nat) : Int) by omega, hclip]
    by_cases hc : max l[i].f0 0 ≤ min l[i].f1 1114111
    · rw [if_pos hc, if_pos hc, if_pos (by simp; omega)]
      simp [toRg]
    · rw [if_neg hc, if_neg hc, List.append_nil]
theorem norm_ev (l : List S55) (hn : l.length ≤ 900000) : Ev (fun k => ranges_Norm.f k l) ((normL (l.map ofRg)).map toRg) := by
  have := norm_l0 l hn l.length 0 [] (Nat.zero_le _) (by omega) (by simp; omega) (fun x hx => by simp at hx)
  unfold ranges_Norm.f normL
  simpa using this
theorem map_back (l : List S55) : (l.map ofRg).map toRg = l := by rw [List.map_map]; exact List.map_id'' (fun x => toRg_ofRg x) l
theorem map_forth (l : List (Int × Int)) : (l.map toRg).map ofRg = l := by rw [List.map_map]; exact List.map_id'' (fun x => ofRg_toRg x) l
theorem normAt : NormAt normL (fun l => l.length ≤ 900000) := by
  intro A c l w hn hC hc
  obtain ⟨k, hk⟩ := Ev.rounds (norm_ev (l.map toRg) (by simpa using hn))
  rw [map_forth] at hk
  have hC' : Kd.C k55 w A (l.map toRg).length (l.map toRg) := by
    rw [rg_kd]
    exact C_iso.2 (by rw [map_forth, List.length_map]; exact hC)
  have h := ranges_Norm.calls k A c (l.map toRg) _ w hC' (by simpa using hc) hk
  rw [List.length_map] at h
  refine h.mono fun e w' ⟨v, he, hR, hb⟩ => ⟨v, he, ?_, hb⟩
  have := R_iso.1 (rg_kd ▸ hR)
  rwa [map_forth] at this
end

/-! ### fold_Close: function 17 -/
-- own text
def fold_Close.f (l0 : List S55) : Option (List S55) := if l0.length ≤ 100000 then some ((Go.Proofs.YthblpnfkdkhcpaaX.closeL (l0.map ofRg)).map toRg) else none
theorem fold_Close.calls (A0 : Option Addr) (c0 : Nat) (l0 : List S55) (r : List S55) (w : World) (hr0 : Kd.C k55 w A0 l0.length l0) (hc0 : l0.length ≤ c0) (h : fold_Close.f l0 = some r) :
    Calls Try.prog 17 #[.slice A0 l0.length c0] w fun e w' => ∃ v0_ : Value, e = .returned (v0_) ∧ Kd.R k55 55 w' w.heap.size (fun _ => True) v0_ r ∧ Below w.heap.size w w' := by
  unfold fold_Close.f at h
  split at h
  · rename_i hs
    obtain rfl := Option.some.inj h
    have hb := Go.Proofs.YthblpnfkdkhcpaaX.close_any normAt A0 c0 (l0.map ofRg) w (by rw [List.length_map]; exact Go.Proofs.YthblpnfkdkhcpaaX.C_iso.1 (rg_kd ▸ hr0)) (by simp; omega)
    rw [List.length_map] at hb
    refine hb.mono fun e w' ⟨v, he, hR, hb⟩ => ⟨v, he, ?_, hb⟩
    rw [rg_kd]
    exact Go.Proofs.YthblpnfkdkhcpaaX.R_iso.2 (by rw [map_forth]; exact hR)
  · cases h

/-! ### burinbook_SameRanges: function 18 -/
def burinbook_SameRanges.l0 : Nat → List (S55) → List (S55) → Bool → Int → Option (Bool)
  | 0, _, _, _, _ => none
  | k + 1, x0, x1, x5, x6 => if x5 = true then (if x6 < (x0.length : Int) then (if 0 ≤ x6 then (if x6 < (x1.length : Int) then (burinbook_SameRanges.l0 k x0 x1 (((rd_T55 x0 x6).f0) == ((rd_T55 x1 x6).f0) && (((rd_T55 x0 x6).f1) == ((rd_T55 x1 x6).f1))) (wrap64 (x6 + 1))) else (none)) else (none)) else (some x5)) else (some x5)
def burinbook_SameRanges.f (k : Nat) (l0 : List (S55)) (l1 : List (S55)) : Option (Bool) := burinbook_SameRanges.l0 k l0 l1 ((l0.length : Int) == (l1.length : Int)) 0
theorem burinbook_SameRanges.mono_l : ∀ k, (∀ y0 y1 y2 y3, LeO (burinbook_SameRanges.l0 k y0 y1 y2 y3) (burinbook_SameRanges.l0 (k + 1) y0 y1 y2 y3))
  | 0 => fun _ _ _ _ r h => by simp [burinbook_SameRanges.l0] at h
  | k + 1 => by
    have ih0 := burinbook_SameRanges.mono_l k
    · intro y0 y1 y2 y3
      unfold burinbook_SameRanges.l0
      repeat' first
      | (with_reducible exact ih0 _ _ _ _)
      | (with_reducible exact LeO.refl _)
      | (with_reducible exact LeO.none _)
      | (with_reducible refine LeO.ite ?_ ?_)
      | (with_reducible refine LeO.bind ?_ (fun _ => ?_))
      | exact ih0 _ _ _ _
      | exact LeO.none _
      | refine LeO.ite ?_ ?_
      | refine LeO.bind ?_ (fun _ => ?_)
theorem burinbook_SameRanges.mono : ∀ a0 a1 k, LeO (burinbook_SameRanges.f k a0 a1) (burinbook_SameRanges.f (k + 1) a0 a1) := by
  intro a0 a1 k
  have ih0 := burinbook_SameRanges.mono_l k
  unfold burinbook_SameRanges.f
  repeat' first
      | (with_reducible exact ih0 _ _ _ _)
      | (with_reducible exact LeO.refl _)
      | (with_reducible exact LeO.none _)
      | (with_reducible refine LeO.ite ?_ ?_)
      | (with_reducible refine LeO.bind ?_ (fun _ => ?_))
      | exact ih0 _ _ _ _
      | exact LeO.none _
      | refine LeO.ite ?_ ?_
      | refine LeO.bind ?_ (fun _ => ?_)
set_option maxHeartbeats 8000000 in
set_option maxRecDepth 100000 in
theorem burinbook_SameRanges.calls (k : Nat) (A0 : Option Addr) (c0 : Nat) (l0 : List (S55)) (A1 : Option Addr) (c1 : Nat) (l1 : List (S55)) (r : Bool) (w : World) (hr0 : Kd.C k55 w A0 l0.length l0) (hc0 : l0.length ≤ c0) (hr1 : Kd.C k55 w A1 l1.length l1) (hc1 : l1.length ≤ c1) (h : burinbook_SameRanges.f k l0 l1 = some r) :
    Calls Try.prog 18 #[.slice A0 l0.length c0, .slice A1 l1.length c1] w fun e w' => e = .returned (.bool r) ∧ Drawn0 w w' := by
  have hu55 := Try.underlying55
  have HR0 := Aside0.mk hr0
  have HC0 := Aside0.mk hc0
  clear hr0 hc0
  have HR1 := Aside0.mk hr1
  have HC1 := Aside0.mk hc1
  clear hr1 hc1
  have H : (burinbook_SameRanges.l0 k l0 l1 ((l0.length : Int) == (l1.length : Int)) 0) = some r := h
  clear h
  have H' := Aside0.mk H
  clear H
  go_enter Try.func18, Try.ntmps18
  go_wp2
  repeat (go_quiet (fail); try go_wp2)
  go_loopg [5, 6] k (fun kq v5 v6 w' => ∃ (x5_1 : Bool) (x6_1 : Int), v5 = .bool x5_1 ∧ v6 = .int .i64 x6_1 ∧ Aside0 (burinbook_SameRanges.l0 kq l0 l1 x5_1 x6_1 = some r) ∧ Aside0 (kq ≤ k) ∧ Drawn0 w w')
  case atStart => exact ⟨(((l0.length : Int) == (l1.length : Int))), (0), (by first | rfl | (simp; done) | (simp [*]; done)), (by first | rfl | (simp; done) | (simp [*]; done)), H', ⟨Nat.le_refl _⟩, by repeat (first | exact Drawn0.refl _ | apply Drawn0.step)⟩
  case round =>
    clear H'
    try clear c1
    try clear p2
    obtain ⟨x5_1, x6_1, rfl, rfl, HA, HK1, ⟨m1, rfl⟩⟩ := hrel
    cases gk with
    | zero => exact absurd HA.out (by simp [burinbook_SameRanges.l0])
    | succ k1 =>
      have H := HA.out
      clear HA
      simp only [burinbook_SameRanges.l0] at H
      by_cases c3 : x5_1 = true
      · subst c3
        have H1 : (if x6_1 < (l0.length : Int) then (if 0 ≤ x6_1 then (if x6_1 < (l1.length : Int) then (burinbook_SameRanges.l0 k1 l0 l1 (((rd_T55 l0 x6_1).f0) == ((rd_T55 l1 x6_1).f0) && (((rd_T55 l0 x6_1).f1) == ((rd_T55 l1 x6_1).f1))) (wrap64 (x6_1 + 1))) else (none)) else (none)) else (some true)) = some r := by rw [if_pos rfl] at H; exact H
        clear H
        have H := H1
        clear H1
        by_cases c4 : x6_1 < (l0.length : Int)
        · rw [if_pos c4] at H
          have c4b0 : decide (x6_1 < (l0.length : Int)) = true := decide_eq_true c4
          clear c4
          by_cases c5 : 0 ≤ x6_1
          · rw [if_pos c5] at H
            have c5b0 : decide (0 ≤ x6_1) = true := decide_eq_true c5
            clear c5
            by_cases c6 : x6_1 < (l1.length : Int)
            · rw [if_pos c6] at H
              have c6b0 : decide (x6_1 < (l1.length : Int)) = true := decide_eq_true c6
              clear c6
              have H' := Aside0.mk H
              clear H
              have p133 : 0 ≤ (x6_1 : Int) := of_decide_eq_true (by first | (with_reducible assumption) | assumption)
              have q133 : x6_1 < (l0.length : Int) := of_decide_eq_true (by first | (with_reducible assumption) | assumption)
              obtain ⟨ad133, e133, hx133_0, hx133_1⟩ := at_T55 HR0.out x6_1 p133 q133
              cases e133
              replace p133 := eq_true p133
              replace q133 := eq_true q133
              have p134 : 0 ≤ (x6_1 : Int) := of_decide_eq_true (by first | (with_reducible assumption) | assumption)
              have q134 : x6_1 < (l1.length : Int) := of_decide_eq_true (by first | (with_reducible assumption) | assumption)
              obtain ⟨ad134, e134, hx134_0, hx134_1⟩ := at_T55 HR1.out x6_1 p134 q134
              cases e134
              replace p134 := eq_true p134
              replace q134 := eq_true q134
              go_wp2
              repeat (go_quiet (fail); try go_wp2)
              go_roundg k1
              case measure => have := HK1.out; omega
              case rel => exact ⟨((((rd_T55 l0 x6_1).f0) == ((rd_T55 l1 x6_1).f0) && (((rd_T55 l0 x6_1).f1) == ((rd_T55 l1 x6_1).f1)))), (wrap64 (x6_1 + 1)), (by first | rfl | (simp; done) | (simp [*]; done)), (by first | rfl | (simp; done) | (simp [*]; done)), H', ⟨by have := HK1.out; omega⟩, by repeat (first | exact Drawn0.refl _ | apply Drawn0.step)⟩
            · rw [if_neg c6] at H
              exact absurd H (by simp)
          · rw [if_neg c5] at H
            exact absurd H (by simp)
        · rw [if_neg c4] at H
          have c4b0 : decide (x6_1 < (l0.length : Int)) = false := decide_eq_false c4
          clear c4
          obtain rfl := Option.some.inj H
          go_wp2
          repeat (go_quiet (fail); try go_wp2)
          go_ret
          exact ⟨by first | rfl | (simp; done) | (simp [*]; done), by repeat (first | exact Drawn0.refl _ | apply Drawn0.step)⟩
      · replace c3 := Bool.eq_false_iff.mpr c3
        subst c3
        have H1 : (some false) = some r := by rw [if_neg (show ¬ (false = true) by decide)] at H; exact H
        clear H
        have H := H1
        clear H1
        obtain rfl := Option.some.inj H
        go_wp2
        repeat (go_quiet (fail); try go_wp2)
        go_ret
        exact ⟨by first | rfl | (simp; done) | (simp [*]; done), by repeat (first | exact Drawn0.refl _ | apply Drawn0.step)⟩

/-! ### ranges_Has: function 22 -/
-- own text
def ranges_Has.f (l0 : List S55) (a1 : Int) : Option Bool := some (Go.Proofs.YthblpnfkdkhcpaaX.hasL (l0.map fun x => (x.f0, x.f1)) a1)
theorem ranges_Has.calls (A0 : Option Addr) (c0 : Nat) (l0 : List S55) (a1 : Int) (r : Bool) (w : World) (hr0 : Kd.C k55 w A0 l0.length l0) (hc0 : l0.length ≤ c0) (h : ranges_Has.f l0 a1 = some r) :
    Calls Try.prog 22 #[.slice A0 l0.length c0, .int .i64 a1] w fun e w' => e = .returned (.bool r) ∧ Below w.heap.size w w' := by
  obtain rfl := Option.some.inj h
  exact Go.Proofs.YthblpnfkdkhcpaaX.has_any (d := k55) (of := fun x => (x.f0, x.f1)) (fun h => by
    obtain ⟨_, _, rfl, rfl, rfl⟩ := h
    rfl) rfl A0 c0 l0 a1 w hr0

/-! ### ranges_Check: function 23 -/
mutual
def ranges_Check.l0 : Nat → Int → List (S55) → Int → Int → Option (Int)
  | 0, _, _, _, _ => none
  | k + 1, x3, x6, x7, x8 => if x8 < x7 then (if 0 ≤ x8 then (if x8 < (x6.length : Int) then (if ((rd_T55 x6 x8).f0) < 0 then (ranges_Check.j1 k x3 x6 x7 x8 true ((rd_T55 x6 x8).f0) ((rd_T55 x6 x8).f1)) else (if ((rd_T55 x6 x8).f0) > 1114111 then (ranges_Check.j1 k x3 x6 x7 x8 true ((rd_T55 x6 x8).f0) ((rd_T55 x6 x8).f1)) else (if ((rd_T55 x6 x8).f1) < 0 then (ranges_Check.j1 k x3 x6 x7 x8 true ((rd_T55 x6 x8).f0) ((rd_T55 x6 x8).f1)) else (ranges_Check.j1 k x3 x6 x7 x8 (decide (((rd_T55 x6 x8).f1) > 1114111)) ((rd_T55 x6 x8).f0) ((rd_T55 x6 x8).f1))))) else (none)) else (none)) else (some 0)
def ranges_Check.j1 : Nat → Int → List (S55) → Int → Int → Bool → Int → Int → Option (Int)
  | 0, _, _, _, _, _, _, _ => none
  | k + 1, x3, x6, x7, x8, x12, x137000, x137001 => if x12 = true then (some 1) else (if x137000 > x137001 then (some 4) else (if x137000 ≤ (wrap64 (x3 + 1)) then (some 4) else (ranges_Check.l0 k x137001 x6 x7 (wrap64 (x8 + 1)))))
end
def ranges_Check.f (k : Nat) (l0 : List (S55)) : Option (Int) := ranges_Check.l0 k (-2) l0 (l0.length : Int) 0
theorem ranges_Check.mono_l : ∀ k, (∀ y0 y1 y2 y3, LeO (ranges_Check.l0 k y0 y1 y2 y3) (ranges_Check.l0 (k + 1) y0 y1 y2 y3)) ∧ (∀ y0 y1 y2 y3 y4 y5 y6, LeO (ranges_Check.j1 k y0 y1 y2 y3 y4 y5 y6) (ranges_Check.j1 (k + 1) y0 y1 y2 y3 y4 y5 y6))
  | 0 => ⟨fun _ _ _ _ r h => by simp [ranges_Check.l0] at h, fun _ _ _ _ _ _ _ r h => by simp [ranges_Check.j1] at h⟩
  | k + 1 => by
    obtain ⟨ih0, ih1⟩ := ranges_Check.mono_l k
    refine ⟨?_, ?_⟩
    · intro y0 y1 y2 y3
      unfold ranges_Check.l0
      repeat' first
      | (with_reducible exact ih0 _ _ _ _)
      | (with_reducible exact ih1 _ _ _ _ _ _ _)
      | (with_reducible exact LeO.refl _)
      | (with_reducible exact LeO.none _)
      | (with_reducible refine LeO.ite ?_ ?_)
      | (with_reducible refine LeO.bind ?_ (fun _ => ?_))
      | exact ih0 _ _ _ _
      | exact ih1 _ _ _ _ _ _ _
      | exact LeO.none _
      | refine LeO.ite ?_ ?_
      | refine LeO.bind ?_ (fun _ => ?_)
    · intro y0 y1 y2 y3 y4 y5 y6
      unfold ranges_Check.j1
      repeat' first
      | (with_reducible exact ih0 _ _ _ _)
      | (with_reducible exact ih1 _ _ _ _ _ _ _)
      | (with_reducible exact LeO.refl _)
      | (with_reducible exact LeO.none _)
      | (with_reducible refine LeO.ite ?_ ?_)
      | (with_reducible refine LeO.bind ?_ (fun _ => ?_))
      | exact ih0 _ _ _ _
      | exact ih1 _ _ _ _ _ _ _
      | exact LeO.none _
      | refine LeO.ite ?_ ?_
      | refine LeO.bind ?_ (fun _ => ?_)
theorem ranges_Check.mono : ∀ a0 k, LeO (ranges_Check.f k a0) (ranges_Check.f (k + 1) a0) := by
  intro a0 k
  obtain ⟨ih0, ih1⟩ := ranges_Check.mono_l k
  unfold ranges_Check.f
  repeat' first
      | (with_reducible exact ih0 _ _ _ _)
      | (with_reducible exact ih1 _ _ _ _ _ _ _)
      | (with_reducible exact LeO.refl _)
      | (with_reducible exact LeO.none _)
      | (with_reducible refine LeO.ite ?_ ?_)
      | (with_reducible refine LeO.bind ?_ (fun _ => ?_))
      | exact ih0 _ _ _ _
      | exact ih1 _ _ _ _ _ _ _
      | exact LeO.none _
      | refine LeO.ite ?_ ?_
      | refine LeO.bind ?_ (fun _ => ?_)
set_option maxHeartbeats 8000000 in
set_option maxRecDepth 100000 in
theorem ranges_Check.calls (k : Nat) (A0 : Option Addr) (c0 : Nat) (l0 : List (S55)) (r : Int) (w : World) (hr0 : Kd.C k55 w A0 l0.length l0) (hc0 : l0.length ≤ c0) (h : ranges_Check.f k l0 = some r) :
    Calls Try.prog 23 #[.slice A0 l0.length c0] w fun e w' => e = .returned (.int .i64 r) ∧ Below w.heap.size w w' := by
  have hu55 := Try.underlying55
  have HR0 := Aside0.mk hr0
  have HC0 := Aside0.mk hc0
  clear hr0 hc0
  have HB := Aside0.mk (Below.refl w.heap.size w)
  have H : (ranges_Check.l0 k (-2) l0 (l0.length : Int) 0) = some r := h
  clear h
  have H' := Aside0.mk H
  clear H
  go_enter Try.func23, Try.ntmps23
  go_wp2
  go_loopg [3, 8] k (fun kq v3 v8 w' => ∃ (x3_1 : Int) (x8_1 : Int), v3 = .int .i64 x3_1 ∧ v8 = .int .i64 x8_1 ∧ Aside0 (ranges_Check.l0 kq x3_1 l0 (l0.length : Int) x8_1 = some r) ∧ Aside0 (kq ≤ k) ∧ Aside0 (Below w.heap.size w w'))
  case atStart => exact ⟨((-2)), (0), (by first | rfl | (simp; done) | (simp [*]; done)), (by first | rfl | (simp; done) | (simp [*]; done)), H', ⟨Nat.le_refl _⟩, ⟨by repeat (first | (with_reducible first | exact HB.out | apply below_alloc | apply pw_below_drewN | apply below_drew1) | exact HB.out)⟩⟩
  case round =>
    clear H'
    obtain ⟨x3_1, x8_1, rfl, rfl, HA, HK1, HB⟩ := hrel
    cases gk with
    | zero => exact absurd HA.out (by simp [ranges_Check.l0])
    | succ k1 =>
      have H := HA.out
      clear HA
      simp only [ranges_Check.l0] at H
      by_cases c2 : x8_1 < (l0.length : Int)
      · rw [if_pos c2] at H
        have c2b0 : decide (x8_1 < (l0.length : Int)) = true := decide_eq_true c2
        clear c2
        by_cases c3 : 0 ≤ x8_1
        · rw [if_pos c3] at H
          have c3b0 : decide (0 ≤ x8_1) = true := decide_eq_true c3
          clear c3
          by_cases c4 : x8_1 < (l0.length : Int)
          · rw [if_pos c4] at H
            have c4b0 : decide (x8_1 < (l0.length : Int)) = true := decide_eq_true c4
            clear c4
            have HC5 := Aside0.mk H
            clear H
            have p135 : 0 ≤ (x8_1 : Int) := of_decide_eq_true (by first | (with_reducible assumption) | assumption)
            have q135 : x8_1 < (l0.length : Int) := of_decide_eq_true (by first | (with_reducible assumption) | assumption)
            obtain ⟨ad135, e135, hx135_0, hx135_1⟩ := at_T55 HR0.out x8_1 p135 q135
            cases e135
            replace hx135_0 := (HB.out.cell (World.block_lt_of_cell? w _ hx135_0)).trans hx135_0
            replace hx135_1 := (HB.out.cell (World.block_lt_of_cell? w _ hx135_1)).trans hx135_1
            replace p135 := eq_true p135
            replace q135 := eq_true q135
            go_upto_region 5 with (first | ((with_reducible refine gate_dst (N := 5) rfl ?_); refine box_event ?hg (N := 5) ?hd (cs := #[.int .i64 0, .int .i64 0]) (t := 55) ?hr ?_; (case hd => rfl); (case hg => rfl); (case hr => first | (go_simp; done) | (go_simp; rfl)); intro gb136 hg w6 hbox hb; have n0_ := Aside0.mk (below_step (by repeat (first | (with_reducible first | exact HB.out | apply below_alloc | apply pw_below_drewN | apply below_drew1) | exact HB.out)) hb); have n1_ := Aside0.mk (hbox); have n2_ := Aside0.mk ((by rw [hg]; exact (below_size (by repeat (first | (with_reducible first | exact HB.out | apply below_alloc | apply pw_below_drewN | apply below_drew1) | exact HB.out))) : w.heap.size ≤ gb136)); have n3_ := Aside0.mk ((by rw [hg]; exact (below_size (by repeat (first | (with_reducible first | exact HB.out | apply below_alloc | apply pw_below_drewN | apply below_drew1) | exact HB.out))) : w.heap.size ≤ gb136)); clear HB; have HB := n0_; have BK136 := n1_; have GW136 := n2_; have GE136 := n3_; clear n0_ n1_ n2_ n3_; clear hb hbox hg; have hcz7_0 : w6.cell? ⟨gb136, 0, none⟩ = some (.int .i64 0) := (blk_cell BK136.out 0).trans rfl; have hcz7_1 : w6.cell? ⟨gb136, 1, none⟩ = some (.int .i64 0) := (blk_cell BK136.out 1).trans rfl; have hfz7_0 := blk_frozen BK136.out 0; have hfz7_1 := blk_frozen BK136.out 1; have hcy7_a : ∀ u, (w6.setCell ⟨gb136, 0, none⟩ u).cell? ⟨gb136, 1, none⟩ = some (.int .i64 0) := fun u => (blk_cell (blk_put BK136.out 0 u rfl) 1).trans rfl; have hcy7_b : ∀ u v, ((w6.setCell ⟨gb136, 0, none⟩ u).setCell ⟨gb136, 1, none⟩ v).cell? ⟨gb136, 0, none⟩ = some u := fun u v => (blk_cell (blk_put (blk_put BK136.out 0 u rfl) 1 v rfl) 0).trans rfl; have hcy7_c : ∀ u v u1, (((w6.setCell ⟨gb136, 0, none⟩ u).setCell ⟨gb136, 1, none⟩ v).setCell ⟨gb136, 0, none⟩ u1).cell? ⟨gb136, 1, none⟩ = some v := fun u v u1 => (blk_cell (blk_put (blk_put (blk_put BK136.out 0 u rfl) 1 v rfl) 0 u1 rfl) 1).trans rfl))
            (try simp only [Act.put, List.setIfInBounds_toArray, List.set_cons_zero, List.set_cons_succ])
            go_cut [12] (fun v12 wc => ∃ (kq : Nat) (x12_4 : Bool), v12 = .bool x12_4 ∧ Aside0 (ranges_Check.j1 kq x3_1 l0 (l0.length : Int) x8_1 x12_4 ((rd_T55 l0 x8_1).f0) ((rd_T55 l0 x8_1).f1) = some r) ∧ Aside0 (kq ≤ k1) ∧ Aside0 (wc.heap[gb136]? = some (.cells #[.int .i64 ((rd_T55 l0 x8_1).f0), .int .i64 ((rd_T55 l0 x8_1).f1)] 55 (0, 0))) ∧ Aside0 (Below w.heap.size w wc))
            case first =>
              have H := HC5.out
              clear HC5
              by_cases c8 : ((rd_T55 l0 x8_1).f0) < 0
              · rw [if_pos c8] at H
                have c8b0 : decide (((rd_T55 l0 x8_1).f0) < 0) = true := decide_eq_true c8
                clear c8
                (first | rw [c8b0] | (simp only [i64_w, i32_w]; rw [c8b0]) | skip)
                have H' := Aside0.mk H
                clear H
                have hcz9_0 : w6.cell? ⟨gb136, 0, none⟩ = some (.int .i64 0) := (blk_cell BK136.out 0).trans rfl
                have hcz9_1 : w6.cell? ⟨gb136, 1, none⟩ = some (.int .i64 0) := (blk_cell BK136.out 1).trans rfl
                have hfz9_0 := blk_frozen BK136.out 0
                have hfz9_1 := blk_frozen BK136.out 1
                go_wp2
                go_meet
                case rel => exact ⟨_, (true), (by first | rfl | (simp; done) | (simp [*]; done)), H', ⟨by have := HK1.out; first | omega | exact Nat.le_refl _⟩, ⟨by (with_reducible repeat (first | refine blk_drewN ?_ _ | refine blk_drew ?_ | refine blk_alloc ?_ _)); refine blk_put (cs := #[.int .i64 ((rd_T55 l0 x8_1).f0), .int .i64 0]) ?_ 1 _ rfl; (with_reducible repeat (first | refine blk_drewN ?_ _ | refine blk_drew ?_ | refine blk_alloc ?_ _)); refine blk_put (cs := #[.int .i64 0, .int .i64 0]) ?_ 0 _ rfl; (with_reducible repeat (first | refine blk_drewN ?_ _ | refine blk_drew ?_ | refine blk_alloc ?_ _)); exact BK136.out⟩, ⟨by repeat (first | (with_reducible first | exact HB.out | apply below_alloc | apply pw_below_drewN | apply below_drew1 | refine below_set ?_ GE136.out) | exact HB.out)⟩⟩
              · rw [if_neg c8] at H
                have c8b0 : decide (((rd_T55 l0 x8_1).f0) < 0) = false := decide_eq_false c8
                clear c8
                (first | rw [c8b0] | (simp only [i64_w, i32_w]; rw [c8b0]) | skip)
                by_cases c10 : ((rd_T55 l0 x8_1).f0) > 1114111
                · rw [if_pos c10] at H
                  have c10b0 : decide (1114111 < ((rd_T55 l0 x8_1).f0)) = true := decide_eq_true c10
                  clear c10
                  have H' := Aside0.mk H
                  clear H
                  have hcz11_0 : w6.cell? ⟨gb136, 0, none⟩ = some (.int .i64 0) := (blk_cell BK136.out 0).trans rfl
                  have hcz11_1 : w6.cell? ⟨gb136, 1, none⟩ = some (.int .i64 0) := (blk_cell BK136.out 1).trans rfl
                  have hfz11_0 := blk_frozen BK136.out 0
                  have hfz11_1 := blk_frozen BK136.out 1
                  go_wp2
                  go_meet
                  case rel => exact ⟨_, (true), (by first | rfl | (simp; done) | (simp [*]; done)), H', ⟨by have := HK1.out; first | omega | exact Nat.le_refl _⟩, ⟨by (with_reducible repeat (first | refine blk_drewN ?_ _ | refine blk_drew ?_ | refine blk_alloc ?_ _)); refine blk_put (cs := #[.int .i64 ((rd_T55 l0 x8_1).f0), .int .i64 0]) ?_ 1 _ rfl; (with_reducible repeat (first | refine blk_drewN ?_ _ | refine blk_drew ?_ | refine blk_alloc ?_ _)); refine blk_put (cs := #[.int .i64 0, .int .i64 0]) ?_ 0 _ rfl; (with_reducible repeat (first | refine blk_drewN ?_ _ | refine blk_drew ?_ | refine blk_alloc ?_ _)); exact BK136.out⟩, ⟨by repeat (first | (with_reducible first | exact HB.out | apply below_alloc | apply pw_below_drewN | apply below_drew1 | refine below_set ?_ GE136.out) | exact HB.out)⟩⟩
                · rw [if_neg c10] at H
                  have c10b0 : decide (1114111 < ((rd_T55 l0 x8_1).f0)) = false := decide_eq_false c10
                  clear c10
                  by_cases c12 : ((rd_T55 l0 x8_1).f1) < 0
                  · rw [if_pos c12] at H
                    have c12b0 : decide (((rd_T55 l0 x8_1).f1) < 0) = true := decide_eq_true c12
                    clear c12
                    have H' := Aside0.mk H
                    clear H
                    have hcz13_0 : w6.cell? ⟨gb136, 0, none⟩ = some (.int .i64 0) := (blk_cell BK136.out 0).trans rfl
                    have hcz13_1 : w6.cell? ⟨gb136, 1, none⟩ = some (.int .i64 0) := (blk_cell BK136.out 1).trans rfl
                    have hfz13_0 := blk_frozen BK136.out 0
                    have hfz13_1 := blk_frozen BK136.out 1
                    go_wp2
                    go_meet
                    case rel => exact ⟨_, (true), (by first | rfl | (simp; done) | (simp [*]; done)), H', ⟨by have := HK1.out; first | omega | exact Nat.le_refl _⟩, ⟨by (with_reducible repeat (first | refine blk_drewN ?_ _ | refine blk_drew ?_ | refine blk_alloc ?_ _)); refine blk_put (cs := #[.int .i64 ((rd_T55 l0 x8_1).f0), .int .i64 0]) ?_ 1 _ rfl; (with_reducible repeat (first | refine blk_drewN ?_ _ | refine blk_drew ?_ | refine blk_alloc ?_ _)); refine blk_put (cs := #[.int .i64 0, .int .i64 0]) ?_ 0 _ rfl; (with_reducible repeat (first | refine blk_drewN ?_ _ | refine blk_drew ?_ | refine blk_alloc ?_ _)); exact BK136.out⟩, ⟨by repeat (first | (with_reducible first | exact HB.out | apply below_alloc | apply pw_below_drewN | apply below_drew1 | refine below_set ?_ GE136.out) | exact HB.out)⟩⟩
                  · rw [if_neg c12] at H
                    have c12b0 : decide (((rd_T55 l0 x8_1).f1) < 0) = false := decide_eq_false c12
                    clear c12
                    have H' := Aside0.mk H
                    clear H
                    have hcz14_0 : w6.cell? ⟨gb136, 0, none⟩ = some (.int .i64 0) := (blk_cell BK136.out 0).trans rfl
                    have hcz14_1 : w6.cell? ⟨gb136, 1, none⟩ = some (.int .i64 0) := (blk_cell BK136.out 1).trans rfl
                    have hfz14_0 := blk_frozen BK136.out 0
                    have hfz14_1 := blk_frozen BK136.out 1
                    go_wp2
                    go_meet
                    case rel => exact ⟨_, (decide (((rd_T55 l0 x8_1).f1) > 1114111)), (by first | rfl | (simp; done) | (simp [*]; done)), H', ⟨by have := HK1.out; first | omega | exact Nat.le_refl _⟩, ⟨by (with_reducible repeat (first | refine blk_drewN ?_ _ | refine blk_drew ?_ | refine blk_alloc ?_ _)); refine blk_put (cs := #[.int .i64 ((rd_T55 l0 x8_1).f0), .int .i64 0]) ?_ 1 _ rfl; (with_reducible repeat (first | refine blk_drewN ?_ _ | refine blk_drew ?_ | refine blk_alloc ?_ _)); refine blk_put (cs := #[.int .i64 0, .int .i64 0]) ?_ 0 _ rfl; (with_reducible repeat (first | refine blk_drewN ?_ _ | refine blk_drew ?_ | refine blk_alloc ?_ _)); exact BK136.out⟩, ⟨by repeat (first | (with_reducible first | exact HB.out | apply below_alloc | apply pw_below_drewN | apply below_drew1 | refine below_set ?_ GE136.out) | exact HB.out)⟩⟩
            case rest =>
              clear HC5
              try clear c1
              try clear p1
              try clear q1
              try clear hx1
              try clear c2
              try clear c2b0
              try clear p2
              try clear c3
              try clear c3b0
              try clear c4
              try clear c4b0
              try clear c8
              try clear c8b0
              try clear c10
              try clear c10b0
              try clear c12
              try clear c12b0
              try clear p13
              try clear q13
              try clear hx13
              try clear hcz11_0
              try clear hcz11_1
              try clear hcz13_0
              try clear hcz13_1
              try clear hcz14_0
              try clear hcz14_1
              try clear hcz7_0
              try clear hcz7_1
              try clear hcz9_0
              try clear hcz9_1
              try clear hfz11_0
              try clear hfz11_1
              try clear hfz13_0
              try clear hfz13_1
              try clear hfz14_0
              try clear hfz14_1
              try clear hfz7_0
              try clear hfz7_1
              try clear hfz9_0
              try clear hfz9_1
              try clear hx135_0
              try clear hx135_1
              try clear p135
              try clear q135
              obtain ⟨kq, x12_4, rfl, HA, HJ4, BK136, HB⟩ := hcut
              cases kq with
              | zero => exact absurd HA.out (by simp [ranges_Check.j1])
              | succ kj4 =>
                have H := HA.out
                clear HA
                simp only [ranges_Check.j1] at H
                by_cases c15 : x12_4 = true
                · subst c15
                  have H1 : (some 1) = some r := by rw [if_pos rfl] at H; exact H
                  clear H
                  have H := H1
                  clear H1
                  obtain rfl := Option.some.inj H
                  go_wp2
                  go_ret
                  exact ⟨by first | rfl | (simp [errW_none, errW_some] <;> rfl) | (simp [*, errW_none, errW_some] <;> rfl), by repeat (first | (with_reducible first | exact HB.out | apply below_alloc | apply pw_below_drewN | apply below_drew1 | refine below_set ?_ GE136.out) | exact HB.out)⟩
                · replace c15 := Bool.eq_false_iff.mpr c15
                  subst c15
                  have H1 : (if ((rd_T55 l0 x8_1).f0) > ((rd_T55 l0 x8_1).f1) then (some 4) else (if ((rd_T55 l0 x8_1).f0) ≤ (wrap64 (x3_1 + 1)) then (some 4) else (ranges_Check.l0 kj4 ((rd_T55 l0 x8_1).f1) l0 (l0.length : Int) (wrap64 (x8_1 + 1))))) = some r := by rw [if_neg (show ¬ (false = true) by decide)] at H; exact H
                  clear H
                  have H := H1
                  clear H1
                  by_cases c16 : ((rd_T55 l0 x8_1).f0) > ((rd_T55 l0 x8_1).f1)
                  · rw [if_pos c16] at H
                    have c16b0 : decide (((rd_T55 l0 x8_1).f1) < ((rd_T55 l0 x8_1).f0)) = true := decide_eq_true c16
                    clear c16
                    obtain rfl := Option.some.inj H
                    have hcz17_0 : wc.cell? ⟨gb136, 0, none⟩ = some (.int .i64 ((rd_T55 l0 x8_1).f0)) := (blk_cell BK136.out 0).trans rfl
                    have hcz17_1 : wc.cell? ⟨gb136, 1, none⟩ = some (.int .i64 ((rd_T55 l0 x8_1).f1)) := (blk_cell BK136.out 1).trans rfl
                    have hfz17_0 := blk_frozen BK136.out 0
                    have hfz17_1 := blk_frozen BK136.out 1
                    go_wp2
                    go_ret
                    exact ⟨by first | rfl | (simp [errW_none, errW_some] <;> rfl) | (simp [*, errW_none, errW_some] <;> rfl), by repeat (first | (with_reducible first | exact HB.out | apply below_alloc | apply pw_below_drewN | apply below_drew1 | refine below_set ?_ GE136.out) | exact HB.out)⟩
                  · rw [if_neg c16] at H
                    have c16b0 : decide (((rd_T55 l0 x8_1).f1) < ((rd_T55 l0 x8_1).f0)) = false := decide_eq_false c16
                    clear c16
                    by_cases c18 : ((rd_T55 l0 x8_1).f0) ≤ (wrap64 (x3_1 + 1))
                    · rw [if_pos c18] at H
                      have c18b0 : decide (((rd_T55 l0 x8_1).f0) ≤ (wrap64 (x3_1 + 1))) = true := decide_eq_true c18
                      clear c18
                      obtain rfl := Option.some.inj H
                      have hcz19_0 : wc.cell? ⟨gb136, 0, none⟩ = some (.int .i64 ((rd_T55 l0 x8_1).f0)) := (blk_cell BK136.out 0).trans rfl
                      have hcz19_1 : wc.cell? ⟨gb136, 1, none⟩ = some (.int .i64 ((rd_T55 l0 x8_1).f1)) := (blk_cell BK136.out 1).trans rfl
                      have hfz19_0 := blk_frozen BK136.out 0
                      have hfz19_1 := blk_frozen BK136.out 1
                      go_wp2
                      go_ret
                      exact ⟨by first | rfl | (simp [errW_none, errW_some] <;> rfl) | (simp [*, errW_none, errW_some] <;> rfl), by repeat (first | (with_reducible first | exact HB.out | apply below_alloc | apply pw_below_drewN | apply below_drew1 | refine below_set ?_ GE136.out) | exact HB.out)⟩
                    · rw [if_neg c18] at H
                      have c18b0 : decide (((rd_T55 l0 x8_1).f0) ≤ (wrap64 (x3_1 + 1))) = false := decide_eq_false c18
                      clear c18
                      have H' := Aside0.mk H
                      clear H
                      have hcz20_0 : wc.cell? ⟨gb136, 0, none⟩ = some (.int .i64 ((rd_T55 l0 x8_1).f0)) := (blk_cell BK136.out 0).trans rfl
                      have hcz20_1 : wc.cell? ⟨gb136, 1, none⟩ = some (.int .i64 ((rd_T55 l0 x8_1).f1)) := (blk_cell BK136.out 1).trans rfl
                      have hfz20_0 := blk_frozen BK136.out 0
                      have hfz20_1 := blk_frozen BK136.out 1
                      go_wp2
                      go_roundg kj4
                      case measure => have := HK1.out; have := HJ4.out; omega
                      case rel => exact ⟨(((rd_T55 l0 x8_1).f1)), (wrap64 (x8_1 + 1)), (by first | rfl | (simp; done) | (simp [*]; done)), (by first | rfl | (simp; done) | (simp [*]; done)), H', ⟨by have := HK1.out; have := HJ4.out; omega⟩, ⟨by repeat (first | (with_reducible first | exact HB.out | apply below_alloc | apply pw_below_drewN | apply below_drew1 | refine below_set ?_ GE136.out) | exact HB.out)⟩⟩
          · rw [if_neg c4] at H
            exact absurd H (by simp)
        · rw [if_neg c3] at H
          exact absurd H (by simp)
      · rw [if_neg c2] at H
        have c2b0 : decide (x8_1 < (l0.length : Int)) = false := decide_eq_false c2
        clear c2
        obtain rfl := Option.some.inj H
        go_wp2
        go_ret
        exact ⟨by first | rfl | (simp [errW_none, errW_some] <;> rfl) | (simp [*, errW_none, errW_some] <;> rfl), by repeat (first | (with_reducible first | exact HB.out | apply below_alloc | apply pw_below_drewN | apply below_drew1) | exact HB.out)⟩

/-! ### ranges_Both: function 43 -/
-- own text
def ranges_Both.f (l0 l1 : List S55) : Option (List S55) := if l0.length ≤ 900 ∧ l1.length ≤ 900 then some ((Go.Proofs.YthblpnfkdkhcpaaX.bothF (l0.map ofRg) (l1.map ofRg)).map toRg) else none
theorem ranges_Both.calls (A0 : Option Addr) (c0 : Nat) (l0 : List S55) (A1 : Option Addr) (c1 : Nat) (l1 : List S55) (r : List S55) (w : World) (hr0 : Kd.C k55 w A0 l0.length l0) (hc0 : l0.length ≤ c0) (hr1 : Kd.C k55 w A1 l1.length l1) (hc1 : l1.length ≤ c1) (h : ranges_Both.f l0 l1 = some r) :
    Calls Try.prog 43 #[.slice A0 l0.length c0, .slice A1 l1.length c1] w fun e w' => ∃ v0_ : Value, e = .returned (v0_) ∧ Kd.R k55 55 w' w.heap.size (fun _ => True) v0_ r ∧ Below w.heap.size w w' := by
  unfold ranges_Both.f at h
  split at h
  · rename_i hs
    obtain rfl := Option.some.inj h
    have n1 := Go.Proofs.YthblpnfkdkhcpaaX.normL_len (l0.map ofRg)
    have n2 := Go.Proofs.YthblpnfkdkhcpaaX.normL_len (l1.map ofRg)
    rw [List.length_map] at n1 n2
    have hm : (Go.Proofs.YthblpnfkdkhcpaaX.normL (l0.map ofRg)).length * (Go.Proofs.YthblpnfkdkhcpaaX.normL (l1.map ofRg)).length ≤ 900 * 900 := Nat.mul_le_mul (by omega) (by omega)
    have hb := Go.Proofs.YthblpnfkdkhcpaaX.both_any normAt A0 A1 c0 c1 (l0.map ofRg) (l1.map ofRg) w (by simp; omega) (by simp; omega) (by rw [List.length_map]; exact Go.Proofs.YthblpnfkdkhcpaaX.C_iso.1 (rg_kd ▸ hr0)) (by simpa using hc0) (by rw [List.length_map]; exact Go.Proofs.YthblpnfkdkhcpaaX.C_iso.1 (rg_kd ▸ hr1)) (by simpa using hc1) (by omega) (by omega) (by omega)
    rw [List.length_map, List.length_map] at hb
    refine hb.mono fun e w' ⟨v, he, hR, hb⟩ => ⟨v, he, ?_, hb⟩
    rw [rg_kd]
    exact Go.Proofs.YthblpnfkdkhcpaaX.R_iso.2 (by rw [map_forth]; exact hR)
  · cases h

/-! ### ranges_Not: function 44 -/
def ranges_Not.l0 : Nat → List (S55) → Int → List (S55) → Int → Int → Option ((List (S55)))
  | 0, _, _, _, _, _ => none
  | k + 1, x3, x4, x8, x9, x10 => if x10 < x9 then (if 0 ≤ x10 then (if x10 < (x8.length : Int) then (if ((rd_T55 x8 x10).f0) > x4 then (if x3.length < 8796093022208 then (ranges_Not.l0 k (x3 ++ [(⟨x4, wrap64 (((rd_T55 x8 x10).f0) - 1)⟩ : S55)]) (wrap64 (((rd_T55 x8 x10).f1) + 1)) x8 x9 (wrap64 (x10 + 1))) else (none)) else (ranges_Not.l0 k x3 (wrap64 (((rd_T55 x8 x10).f1) + 1)) x8 x9 (wrap64 (x10 + 1)))) else (none)) else (none)) else (if x4 ≤ 1114111 then (if x3.length < 8796093022208 then (some (x3 ++ [(⟨x4, 1114111⟩ : S55)])) else (none)) else (some x3))
def ranges_Not.f (k : Nat) (l0 : List (S55)) : Option ((List (S55))) := (ranges_Norm.f k l0).bind fun t137 => (ranges_Not.l0 k ([] : List (S55)) 0 t137 (t137.length : Int) 0)
theorem ranges_Not.mono_l : ∀ k, (∀ y0 y1 y2 y3 y4, LeO (ranges_Not.l0 k y0 y1 y2 y3 y4) (ranges_Not.l0 (k + 1) y0 y1 y2 y3 y4))
  | 0 => fun _ _ _ _ _ r h => by simp [ranges_Not.l0] at h
  | k + 1 => by
    have ih0 := ranges_Not.mono_l k
    · intro y0 y1 y2 y3 y4
      unfold ranges_Not.l0
      repeat' first
      | (with_reducible exact ih0 _ _ _ _ _)
      | (with_reducible exact ranges_Norm.mono _ _)
      | (with_reducible exact LeO.refl _)
      | (with_reducible exact LeO.none _)
      | (with_reducible refine LeO.ite ?_ ?_)
      | (with_reducible refine LeO.bind ?_ (fun _ => ?_))
      | exact ih0 _ _ _ _ _
      | exact ranges_Norm.mono _ _
      | exact LeO.none _
      | refine LeO.ite ?_ ?_
      | refine LeO.bind ?_ (fun _ => ?_)
theorem ranges_Not.mono : ∀ a0 k, LeO (ranges_Not.f k a0) (ranges_Not.f (k + 1) a0) := by
  intro a0 k
  have ih0 := ranges_Not.mono_l k
  unfold ranges_Not.f
  repeat' first
      | (with_reducible exact ih0 _ _ _ _ _)
      | (with_reducible exact ranges_Norm.mono _ _)
      | (with_reducible exact LeO.refl _)
      | (with_reducible exact LeO.none _)
      | (with_reducible refine LeO.ite ?_ ?_)
      | (with_reducible refine LeO.bind ?_ (fun _ => ?_))
      | exact ih0 _ _ _ _ _
      | exact ranges_Norm.mono _ _
      | exact LeO.none _
      | refine LeO.ite ?_ ?_
      | refine LeO.bind ?_ (fun _ => ?_)
set_option maxHeartbeats 8000000 in
set_option maxRecDepth 100000 in
theorem ranges_Not.calls (k : Nat) (A0 : Option Addr) (c0 : Nat) (l0 : List (S55)) (r : List (S55)) (w : World) (hr0 : Kd.C k55 w A0 l0.length l0) (hc0 : l0.length ≤ c0) (h : ranges_Not.f k l0 = some r) :
    Calls Try.prog 44 #[.slice A0 l0.length c0] w fun e w' => ∃ v0_ : Value, e = .returned (v0_) ∧ Kd.R k55 55 w' w.heap.size (fun _ => True) v0_ r ∧ Below w.heap.size w w' := by
  have hu55 := Try.underlying55
  have HR0 := Aside0.mk hr0
  have HC0 := Aside0.mk hc0
  clear hr0 hc0
  have HB := Aside0.mk (Below.refl w.heap.size w)
  have H : ((ranges_Norm.f k l0).bind fun t137 => (ranges_Not.l0 k ([] : List (S55)) 0 t137 (t137.length : Int) 0)) = some r := h
  clear h
  replace H := Option.bind_eq_some_iff.mp H
  obtain ⟨t137, A20, H⟩ := H
  replace H : (ranges_Not.l0 k ([] : List (S55)) 0 t137 (t137.length : Int) 0) = some r := H
  have A2 := Aside0.mk A20
  clear A20
  have H' := Aside0.mk H
  clear H
  go_enter Try.func44, Try.ntmps44
  go_wp2_with (first | ((with_reducible refine gate_callee (f := 37) rfl ?_); refine goesL_ (some 8) rfl rfl Try.func37 (by kernel_rfl) rfl #[.slice A0 l0.length c0] rfl (by (try simp only [List.map_toArray, List.map_cons, List.map_nil]); first | done | rfl | (simp only [List.length_drop, List.length_take]; rfl)) ?_; (with_reducible refine (ranges_Norm.calls k _ _ l0 t137 _ ?side1 ?side2 A2.out).mono ?_); (case side1 => repeat (first | exact HR0.out | (with_reducible refine Kd.C_alloc ?_ _) | (with_reducible refine Kd.C_drewN ?_ _) | (with_reducible refine Kd.C_drew ?_))); (case side2 => exact HC0.out); rintro e w3 ⟨v138, rfl, ho0, hb⟩; refine ⟨_, rfl, ?_⟩; have n0_ := Aside0.mk (Kd.R_lower ho0 (below_size (by repeat (first | (with_reducible first | exact HB.out | apply below_alloc | apply pw_below_drewN | apply below_drew1) | exact HB.out)))); have n1_ := Aside0.mk (below_step (by repeat (first | (with_reducible first | exact HB.out | apply below_alloc | apply pw_below_drewN | apply below_drew1) | exact HB.out)) hb); clear HB; have HO139 := n0_; have HB := n1_; clear n0_ n1_; (try clear hb); (try clear hb2); (try clear hk); (try clear hi); (try clear ho0); obtain ⟨Ao4, co4, eo4⟩ := Kd.R_slice HO139.out; subst eo4))
  go_loopg [3, 4, 10] k (fun kq v3 v4 v10 w' => ∃ (x3_1 : List (S55)) (x4_1 : Int) (x10_1 : Int), v4 = .int .i64 x4_1 ∧ v10 = .int .i64 x10_1 ∧ Aside0 (ranges_Not.l0 kq x3_1 x4_1 t137 (t137.length : Int) x10_1 = some r) ∧ Aside0 (kq ≤ k) ∧ Aside0 (Kd.R k55 55 w' w.heap.size (fun k_ => some k_ ≠ ((.slice Ao4 t137.length co4) : Value).ownBlock) v3 x3_1) ∧ Aside0 (Kd.R k55 55 w' w.heap.size (fun k_ => some k_ ≠ (v3 : Value).ownBlock) (.slice Ao4 t137.length co4) t137) ∧ Aside0 (Below w.heap.size w w'))
  case atStart => exact ⟨(([] : List (S55))), (0), (0), (by first | rfl | (simp; done) | (simp [*]; done)), (by first | rfl | (simp; done) | (simp [*]; done)), H', ⟨Nat.le_refl _⟩, ⟨by first | exact Kd.R_nil _ _ _ _ _ | exact Kd.N_nil _ _ _ _ _ | exact Kd.V_nil _ _ _ _ _ | exact Kd.Q_nil _ _ _ _ _ | exact Kd.S_nil _ _ _ _ _⟩, ⟨by (with_reducible repeat (first | apply Kd.R_alloc | apply Kd.R_drewN | apply Kd.R_drew)); exact Kd.R_mono HO139.out (fun _ hk => (by simp [Value.ownBlock]))⟩, ⟨by repeat (first | (with_reducible first | exact HB.out | apply below_alloc | apply pw_below_drewN | apply below_drew1) | exact HB.out)⟩⟩
  case round =>
    clear H'
    try clear p2
    try clear c3
    try clear c4
    obtain ⟨x3_1, x4_1, x10_1, rfl, rfl, HA, HK1, HO_3, HO_8, HB⟩ := hrel
    cases gk with
    | zero => exact absurd HA.out (by simp [ranges_Not.l0])
    | succ k1 =>
      have H := HA.out
      clear HA
      simp only [ranges_Not.l0] at H
      by_cases c5 : x10_1 < (t137.length : Int)
      · rw [if_pos c5] at H
        have c5b0 : decide (x10_1 < (t137.length : Int)) = true := decide_eq_true c5
        clear c5
        by_cases c6 : 0 ≤ x10_1
        · rw [if_pos c6] at H
          have c6b0 : decide (0 ≤ x10_1) = true := decide_eq_true c6
          clear c6
          by_cases c7 : x10_1 < (t137.length : Int)
          · rw [if_pos c7] at H
            have c7b0 : decide (x10_1 < (t137.length : Int)) = true := decide_eq_true c7
            clear c7
            by_cases c8 : ((rd_T55 t137 x10_1).f0) > x4_1
            · rw [if_pos c8] at H
              have c8b0 : decide (x4_1 < ((rd_T55 t137 x10_1).f0)) = true := decide_eq_true c8
              clear c8
              by_cases c9 : x3_1.length < 8796093022208
              · rw [if_pos c9] at H
                have LMc9 := Aside0.mk c9
                clear c9
                obtain ⟨y142, hy142⟩ : ∃ y_ : List (S55), y_ = (x3_1 ++ [(⟨x4_1, wrap64 (((rd_T55 t137 x10_1).f0) - 1)⟩ : S55)]) := ⟨_, rfl⟩
                replace H : (ranges_Not.l0 k1 y142 (wrap64 (((rd_T55 t137 x10_1).f1) + 1)) t137 (t137.length : Int) (wrap64 (x10_1 + 1))) = some r := by first | (rw [hy142]; with_reducible exact H) | (have H2_ := (Option.bind_some _ _).symm.trans H; rw [hy142]; with_reducible exact H2_) | (have H2_ := (Option.bind_some _ _).symm.trans H; with_reducible exact H2_) | with_reducible exact H | (rw [hy142]; exact H) | exact H
                have Ny142 := Aside0.mk hy142
                clear hy142
                have H' := Aside0.mk H
                clear H
                have p140 : 0 ≤ (x10_1 : Int) := of_decide_eq_true (by first | (with_reducible assumption) | assumption)
                have q140 : x10_1 < (t137.length : Int) := of_decide_eq_true (by first | (with_reducible assumption) | assumption)
                obtain ⟨ad140, e140, hx140_0, hx140_1⟩ := at_T55 (Kd.R_reads' HO_8.out).2.2 x10_1 p140 q140
                cases e140
                replace p140 := eq_true p140
                replace q140 := eq_true q140
                go_wp2_with (first | ((with_reducible refine gate_dst (N := 6) rfl ?_); refine box_event ?hg (N := 6) ?hd (cs := #[.int .i64 0, .int .i64 0]) (t := 55) ?hr ?_; (case hd => rfl); (case hg => rfl); (case hr => first | (go_simp; done) | (go_simp; rfl)); intro gb141 hg w10 hbox hb; have n0_ := Aside0.mk (Kd.R_below (Kd.R_elderB (by (with_reducible repeat (first | apply Kd.R_alloc | apply Kd.R_drewN | apply Kd.R_drew)); exact HO_3.out) gb141 (Nat.le_of_eq hg.symm)) hb); have n1_ := Aside0.mk (Kd.R_below (Kd.R_elderB (by (with_reducible repeat (first | apply Kd.R_alloc | apply Kd.R_drewN | apply Kd.R_drew)); exact HO_8.out) gb141 (Nat.le_of_eq hg.symm)) hb); have n2_ := Aside0.mk (below_step (by repeat (first | (with_reducible first | exact HB.out | apply below_alloc | apply pw_below_drewN | apply below_drew1) | exact HB.out)) hb); have n3_ := Aside0.mk (hbox); have n4_ := Aside0.mk ((by rw [hg]; exact (below_size (by repeat (first | (with_reducible first | exact HB.out | apply below_alloc | apply pw_below_drewN | apply below_drew1) | exact HB.out))) : w.heap.size ≤ gb141)); have n5_ := Aside0.mk ((by rw [hg]; exact (below_size (by repeat (first | (with_reducible first | exact HB.out | apply below_alloc | apply pw_below_drewN | apply below_drew1) | exact HB.out))) : w.heap.size ≤ gb141)); clear HO_3; clear HO_8; clear HB; have HO_3 := n0_; have HO_8 := n1_; have HB := n2_; have BK141 := n3_; have GW141 := n4_; have GE141 := n5_; clear n0_ n1_ n2_ n3_ n4_ n5_; clear hb hbox hg; have hcz11_0 : w10.cell? ⟨gb141, 0, none⟩ = some (.int .i64 0) := (blk_cell BK141.out 0).trans rfl; have hcz11_1 : w10.cell? ⟨gb141, 1, none⟩ = some (.int .i64 0) := (blk_cell BK141.out 1).trans rfl; have hfz11_0 := blk_frozen BK141.out 0; have hfz11_1 := blk_frozen BK141.out 1; have hcy11_a : ∀ u, (w10.setCell ⟨gb141, 0, none⟩ u).cell? ⟨gb141, 1, none⟩ = some (.int .i64 0) := fun u => (blk_cell (blk_put BK141.out 0 u rfl) 1).trans rfl; have hcy11_b : ∀ u v, ((w10.setCell ⟨gb141, 0, none⟩ u).setCell ⟨gb141, 1, none⟩ v).cell? ⟨gb141, 0, none⟩ = some u := fun u v => (blk_cell (blk_put (blk_put BK141.out 0 u rfl) 1 v rfl) 0).trans rfl; have hcy11_c : ∀ u v u1, (((w10.setCell ⟨gb141, 0, none⟩ u).setCell ⟨gb141, 1, none⟩ v).setCell ⟨gb141, 0, none⟩ u1).cell? ⟨gb141, 1, none⟩ = some v := fun u v u1 => (blk_cell (blk_put (blk_put (blk_put BK141.out 0 u rfl) 1 v rfl) 0 u1 rfl) 1).trans rfl) | ((with_reducible refine gate_builtin (b := .append) (xs := #[.tmp 18, .tmp 24]) rfl ?_); at_builtin; refine Kd.R_append k55 (w0 := w) w.heap.size rfl (.tmp 18) (.tmp 24) 29 55 (.agg #[(.int .i64 0), (.int .i64 0)]) 16 rfl Try.underlying29 info55 rfl (by decide) (by omega) u3 x3_1 (⟨x4_1, wrap64 (((rd_T55 t137 x10_1).f0) - 1)⟩ : S55) [.int .i64 x4_1, .int .i64 (wrap64 (((rd_T55 t137 x10_1).f0) - 1))] (fun k_ => some k_ ≠ (.slice (some ad140) t137.length co4 : Value).ownBlock ∧ k_ ≠ gb141) (fun _ => False) rfl (by first | (go_simp; done) | (go_simp; rfl)) ?aP (fun _ hk => hk.elim) ?aF ?aO ?aB ?aS ?aL ?_; (case aP => exact k55_mkM _ _ _ (⟨x4_1, wrap64 (((rd_T55 t137 x10_1).f0) - 1)⟩ : S55)); (case aB => exact (by repeat (first | (with_reducible first | exact HB.out | apply below_alloc | apply pw_below_drewN | apply below_drew1 | refine below_set ?_ GE141.out) | exact HB.out))); (case aF => exact (fun k_ hk => ⟨Kd.fresh' (Kd.R_lt (by (with_reducible repeat (first | apply Kd.R_alloc | apply Kd.R_drewN | apply Kd.R_drew)); exact (Kd.R_mono (Kd.R_far (p := ⟨gb141, 1, none⟩) (Kd.R_far (p := ⟨gb141, 0, none⟩) (Kd.R_mono HO_8.out (fun k_ hk => (⟨hk, hk.2⟩ : _ ∧ k_ ≠ gb141))) (fun _ hk => hk.2) (.int .i64 ((rd_T55 t137 x10_1).f0))) (fun _ hk => hk.2) (.int .i64 ((rd_T55 t137 x10_1).f1))) (fun _ h_ => h_.1)))) k_ hk, Kd.freshB (g := gb141) (o := .cells #[.int .i64 ((rd_T55 t137 x10_1).f0), .int .i64 ((rd_T55 t137 x10_1).f1)] 55 (0, 0)) (by (with_reducible repeat (first | refine blk_drewN ?_ _ | refine blk_drew ?_ | refine blk_alloc ?_ _)); refine blk_put (cs := #[.int .i64 ((rd_T55 t137 x10_1).f0), .int .i64 0]) ?_ 1 _ rfl; (with_reducible repeat (first | refine blk_drewN ?_ _ | refine blk_drew ?_ | refine blk_alloc ?_ _)); refine blk_put (cs := #[.int .i64 0, .int .i64 0]) ?_ 0 _ rfl; (with_reducible repeat (first | refine blk_drewN ?_ _ | refine blk_drew ?_ | refine blk_alloc ?_ _)); exact BK141.out) k_ hk⟩)); (case aO => exact (by (with_reducible repeat (first | apply Kd.R_alloc | apply Kd.R_drewN | apply Kd.R_drew)); exact Kd.R_mono (Kd.R_far (p := ⟨gb141, 1, none⟩) (Kd.R_far (p := ⟨gb141, 0, none⟩) (Kd.R_mono HO_3.out (fun k_ hk => (⟨hk, hk.2⟩ : _ ∧ k_ ≠ gb141))) (fun _ hk => hk.2) (.int .i64 ((rd_T55 t137 x10_1).f0))) (fun _ hk => hk.2) (.int .i64 ((rd_T55 t137 x10_1).f1))) (fun _ hk => ⟨hk.1.1, hk.1.2⟩))); (case aS => exact (below_size (by repeat (first | (with_reducible first | exact HB.out | apply below_alloc | apply pw_below_drewN | apply below_drew1 | refine below_set ?_ GE141.out) | exact HB.out)))); (case aL => have := LMc9.out; omega); intro v143 w12 ho hb hg hat; rw [← Ny142.out] at ho; have n0_ := Aside0.mk (Kd.R_after (ok := (fun k_ => k_ ≠ gb141)) (by (with_reducible repeat (first | apply Kd.R_alloc | apply Kd.R_drewN | apply Kd.R_drew)); exact Kd.R_mono (Kd.R_far (p := ⟨gb141, 1, none⟩) (Kd.R_far (p := ⟨gb141, 0, none⟩) (Kd.R_mono HO_8.out (fun k_ hk => (⟨hk, hk.2⟩ : _ ∧ k_ ≠ gb141))) (fun _ hk => hk.2) (.int .i64 ((rd_T55 t137 x10_1).f0))) (fun _ hk => hk.2) (.int .i64 ((rd_T55 t137 x10_1).f1))) (fun _ hk => ⟨hk.1.2, hk.1.1⟩)) hg hat); have n1_ := Aside0.mk (blk_grown (g := gb141) (o := .cells #[.int .i64 ((rd_T55 t137 x10_1).f0), .int .i64 ((rd_T55 t137 x10_1).f1)] 55 (0, 0)) (by (with_reducible repeat (first | refine blk_drewN ?_ _ | refine blk_drew ?_ | refine blk_alloc ?_ _)); refine blk_put (cs := #[.int .i64 ((rd_T55 t137 x10_1).f0), .int .i64 0]) ?_ 1 _ rfl; (with_reducible repeat (first | refine blk_drewN ?_ _ | refine blk_drew ?_ | refine blk_alloc ?_ _)); refine blk_put (cs := #[.int .i64 0, .int .i64 0]) ?_ 0 _ rfl; (with_reducible repeat (first | refine blk_drewN ?_ _ | refine blk_drew ?_ | refine blk_alloc ?_ _)); exact BK141.out) hg (Kd.R_away HO_3.out (fun _ hk => hk.2))); have n2_ := Aside0.mk (hb); have n3_ := Aside0.mk (ho); clear HO_8; clear BK141; clear HB; clear HO_3; have HO_8 := n0_; have BK141 := n1_; have HB := n2_; have HO144 := n3_; clear n0_ n1_ n2_ n3_; clear ho hb hg hat; have hcz13_0 : w12.cell? ⟨gb141, 0, none⟩ = some (.int .i64 ((rd_T55 t137 x10_1).f0)) := (blk_cell BK141.out 0).trans rfl; have hcz13_1 : w12.cell? ⟨gb141, 1, none⟩ = some (.int .i64 ((rd_T55 t137 x10_1).f1)) := (blk_cell BK141.out 1).trans rfl; have hfz13_0 := blk_frozen BK141.out 0; have hfz13_1 := blk_frozen BK141.out 1; have hcy13_a : ∀ u, (w12.setCell ⟨gb141, 0, none⟩ u).cell? ⟨gb141, 1, none⟩ = some (.int .i64 ((rd_T55 t137 x10_1).f1)) := fun u => (blk_cell (blk_put BK141.out 0 u rfl) 1).trans rfl; have hcy13_b : ∀ u v, ((w12.setCell ⟨gb141, 0, none⟩ u).setCell ⟨gb141, 1, none⟩ v).cell? ⟨gb141, 0, none⟩ = some u := fun u v => (blk_cell (blk_put (blk_put BK141.out 0 u rfl) 1 v rfl) 0).trans rfl; have hcy13_c : ∀ u v u1, (((w12.setCell ⟨gb141, 0, none⟩ u).setCell ⟨gb141, 1, none⟩ v).setCell ⟨gb141, 0, none⟩ u1).cell? ⟨gb141, 1, none⟩ = some v := fun u v u1 => (blk_cell (blk_put (blk_put (blk_put BK141.out 0 u rfl) 1 v rfl) 0 u1 rfl) 1).trans rfl))
                go_roundg k1
                case measure => have := HK1.out; omega
                case rel => exact ⟨(y142), (wrap64 (((rd_T55 t137 x10_1).f1) + 1)), (wrap64 (x10_1 + 1)), (by first | rfl | (simp; done) | (simp [*]; done)), (by first | rfl | (simp; done) | (simp [*]; done)), H', ⟨by have := HK1.out; omega⟩, ⟨by (with_reducible repeat (first | apply Kd.R_alloc | apply Kd.R_drewN | apply Kd.R_drew)); exact Kd.R_mono HO144.out (fun _ hk => hk.1)⟩, ⟨by (with_reducible repeat (first | apply Kd.R_alloc | apply Kd.R_drewN | apply Kd.R_drew)); exact Kd.R_mono HO_8.out (fun _ hk => hk.2)⟩, ⟨by repeat (first | (with_reducible first | exact HB.out | apply below_alloc | apply pw_below_drewN | apply below_drew1 | refine below_set ?_ GE141.out) | exact HB.out)⟩⟩
              · rw [if_neg c9] at H
                exact absurd H (by simp)
            · rw [if_neg c8] at H
              have c8b0 : decide (x4_1 < ((rd_T55 t137 x10_1).f0)) = false := decide_eq_false c8
              clear c8
              have H' := Aside0.mk H
              clear H
              have p140 : 0 ≤ (x10_1 : Int) := of_decide_eq_true (by first | (with_reducible assumption) | assumption)
              have q140 : x10_1 < (t137.length : Int) := of_decide_eq_true (by first | (with_reducible assumption) | assumption)
              obtain ⟨ad140, e140, hx140_0, hx140_1⟩ := at_T55 (Kd.R_reads' HO_8.out).2.2 x10_1 p140 q140
              cases e140
              replace p140 := eq_true p140
              replace q140 := eq_true q140
              go_wp2_with (first | ((with_reducible refine gate_dst (N := 6) rfl ?_); refine box_event ?hg (N := 6) ?hd (cs := #[.int .i64 0, .int .i64 0]) (t := 55) ?hr ?_; (case hd => rfl); (case hg => rfl); (case hr => first | (go_simp; done) | (go_simp; rfl)); intro gb141 hg w14 hbox hb; have n0_ := Aside0.mk (Kd.R_below (Kd.R_elderB (by (with_reducible repeat (first | apply Kd.R_alloc | apply Kd.R_drewN | apply Kd.R_drew)); exact HO_3.out) gb141 (Nat.le_of_eq hg.symm)) hb); have n1_ := Aside0.mk (Kd.R_below (Kd.R_elderB (by (with_reducible repeat (first | apply Kd.R_alloc | apply Kd.R_drewN | apply Kd.R_drew)); exact HO_8.out) gb141 (Nat.le_of_eq hg.symm)) hb); have n2_ := Aside0.mk (below_step (by repeat (first | (with_reducible first | exact HB.out | apply below_alloc | apply pw_below_drewN | apply below_drew1) | exact HB.out)) hb); have n3_ := Aside0.mk (hbox); have n4_ := Aside0.mk ((by rw [hg]; exact (below_size (by repeat (first | (with_reducible first | exact HB.out | apply below_alloc | apply pw_below_drewN | apply below_drew1) | exact HB.out))) : w.heap.size ≤ gb141)); have n5_ := Aside0.mk ((by rw [hg]; exact (below_size (by repeat (first | (with_reducible first | exact HB.out | apply below_alloc | apply pw_below_drewN | apply below_drew1) | exact HB.out))) : w.heap.size ≤ gb141)); clear HO_3; clear HO_8; clear HB; have HO_3 := n0_; have HO_8 := n1_; have HB := n2_; have BK141 := n3_; have GW141 := n4_; have GE141 := n5_; clear n0_ n1_ n2_ n3_ n4_ n5_; clear hb hbox hg; have hcz15_0 : w14.cell? ⟨gb141, 0, none⟩ = some (.int .i64 0) := (blk_cell BK141.out 0).trans rfl; have hcz15_1 : w14.cell? ⟨gb141, 1, none⟩ = some (.int .i64 0) := (blk_cell BK141.out 1).trans rfl; have hfz15_0 := blk_frozen BK141.out 0; have hfz15_1 := blk_frozen BK141.out 1; have hcy15_a : ∀ u, (w14.setCell ⟨gb141, 0, none⟩ u).cell? ⟨gb141, 1, none⟩ = some (.int .i64 0) := fun u => (blk_cell (blk_put BK141.out 0 u rfl) 1).trans rfl; have hcy15_b : ∀ u v, ((w14.setCell ⟨gb141, 0, none⟩ u).setCell ⟨gb141, 1, none⟩ v).cell? ⟨gb141, 0, none⟩ = some u := fun u v => (blk_cell (blk_put (blk_put BK141.out 0 u rfl) 1 v rfl) 0).trans rfl; have hcy15_c : ∀ u v u1, (((w14.setCell ⟨gb141, 0, none⟩ u).setCell ⟨gb141, 1, none⟩ v).setCell ⟨gb141, 0, none⟩ u1).cell? ⟨gb141, 1, none⟩ = some v := fun u v u1 => (blk_cell (blk_put (blk_put (blk_put BK141.out 0 u rfl) 1 v rfl) 0 u1 rfl) 1).trans rfl))
              go_roundg k1
              case measure => have := HK1.out; omega
              case rel => exact ⟨(x3_1), (wrap64 (((rd_T55 t137 x10_1).f1) + 1)), (wrap64 (x10_1 + 1)), (by first | rfl | (simp; done) | (simp [*]; done)), (by first | rfl | (simp; done) | (simp [*]; done)), H', ⟨by have := HK1.out; omega⟩, ⟨by (with_reducible repeat (first | apply Kd.R_alloc | apply Kd.R_drewN | apply Kd.R_drew)); exact Kd.R_mono (Kd.R_far (p := ⟨gb141, 1, none⟩) (Kd.R_far (p := ⟨gb141, 0, none⟩) (Kd.R_mono HO_3.out (fun k_ hk => (⟨hk, hk.2⟩ : _ ∧ k_ ≠ gb141))) (fun _ hk => hk.2) (.int .i64 ((rd_T55 t137 x10_1).f0))) (fun _ hk => hk.2) (.int .i64 ((rd_T55 t137 x10_1).f1))) (fun _ hk => hk.1.1)⟩, ⟨by (with_reducible repeat (first | apply Kd.R_alloc | apply Kd.R_drewN | apply Kd.R_drew)); exact Kd.R_mono (Kd.R_far (p := ⟨gb141, 1, none⟩) (Kd.R_far (p := ⟨gb141, 0, none⟩) (Kd.R_mono HO_8.out (fun k_ hk => (⟨hk, hk.2⟩ : _ ∧ k_ ≠ gb141))) (fun _ hk => hk.2) (.int .i64 ((rd_T55 t137 x10_1).f0))) (fun _ hk => hk.2) (.int .i64 ((rd_T55 t137 x10_1).f1))) (fun _ hk => hk.1.1)⟩, ⟨by repeat (first | (with_reducible first | exact HB.out | apply below_alloc | apply pw_below_drewN | apply below_drew1 | refine below_set ?_ GE141.out) | exact HB.out)⟩⟩
          · rw [if_neg c7] at H
            exact absurd H (by simp)
        · rw [if_neg c6] at H
          exact absurd H (by simp)
      · rw [if_neg c5] at H
        have c5b0 : decide (x10_1 < (t137.length : Int)) = false := decide_eq_false c5
        clear c5
        by_cases c16 : x4_1 ≤ 1114111
        · rw [if_pos c16] at H
          have c16b0 : decide (x4_1 ≤ 1114111) = true := decide_eq_true c16
          clear c16
          by_cases c17 : x3_1.length < 8796093022208
          · rw [if_pos c17] at H
            have LMc17 := Aside0.mk c17
            clear c17
            obtain ⟨y145, hy145⟩ : ∃ y_ : List (S55), y_ = (x3_1 ++ [(⟨x4_1, 1114111⟩ : S55)]) := ⟨_, rfl⟩
            replace H : (some y145) = some r := by first | (rw [hy145]; with_reducible exact H) | (have H2_ := (Option.bind_some _ _).symm.trans H; rw [hy145]; with_reducible exact H2_) | (have H2_ := (Option.bind_some _ _).symm.trans H; with_reducible exact H2_) | with_reducible exact H | (rw [hy145]; exact H) | exact H
            have Ny145 := Aside0.mk hy145
            clear hy145
            obtain rfl := Option.some.inj H
            go_wp2_with (first | ((with_reducible refine gate_builtin (b := .append) (xs := #[.tmp 32, .tmp 35]) rfl ?_); at_builtin; refine Kd.R_append k55 (w0 := w) w.heap.size rfl (.tmp 32) (.tmp 35) 29 55 (.agg #[(.int .i64 0), (.int .i64 0)]) 16 rfl Try.underlying29 info55 rfl (by decide) (by omega) u3 x3_1 (⟨x4_1, 1114111⟩ : S55) [.int .i64 x4_1, .int .i64 1114111] (fun k_ => some k_ ≠ (.slice Ao4 t137.length co4 : Value).ownBlock) (fun _ => False) rfl rfl ?aP (fun _ hk => hk.elim) ?aF ?aO ?aB ?aS ?aL ?_; (case aP => exact k55_mkM _ _ _ (⟨x4_1, 1114111⟩ : S55)); (case aB => exact (by repeat (first | (with_reducible first | exact HB.out | apply below_alloc | apply pw_below_drewN | apply below_drew1) | exact HB.out))); (case aF => exact (fun k_ hk => Kd.fresh' (Kd.R_lt (by (with_reducible repeat (first | apply Kd.R_alloc | apply Kd.R_drewN | apply Kd.R_drew)); exact HO_8.out)) k_ hk)); (case aO => exact (by (with_reducible repeat (first | apply Kd.R_alloc | apply Kd.R_drewN | apply Kd.R_drew)); exact HO_3.out)); (case aS => exact (below_size (by repeat (first | (with_reducible first | exact HB.out | apply below_alloc | apply pw_below_drewN | apply below_drew1) | exact HB.out)))); (case aL => have := LMc17.out; omega); intro v146 w18 ho hb hg hat; rw [← Ny145.out] at ho; have n0_ := Aside0.mk (Kd.R_after (ok := (fun _ => True)) (by (with_reducible repeat (first | apply Kd.R_alloc | apply Kd.R_drewN | apply Kd.R_drew)); exact Kd.R_mono HO_8.out (fun _ hk => ⟨trivial, hk⟩)) hg hat); have n1_ := Aside0.mk (hb); have n2_ := Aside0.mk (ho); clear HO_8; clear HB; clear HO_3; have HO_8 := n0_; have HB := n1_; have HO147 := n2_; clear n0_ n1_ n2_; clear ho hb hg hat))
            go_ret
            exact ⟨_, by first | rfl | (simp [errW_none, errW_some] <;> rfl) | (simp [*, errW_none, errW_some] <;> rfl), by (with_reducible repeat (first | apply Kd.R_alloc | apply Kd.R_drewN | apply Kd.R_drew)); exact Kd.R_mono HO147.out (fun _ hk => trivial), by repeat (first | (with_reducible first | exact HB.out | apply below_alloc | apply pw_below_drewN | apply below_drew1) | exact HB.out)⟩
          · rw [if_neg c17] at H
            exact absurd H (by simp)
        · rw [if_neg c16] at H
          have c16b0 : decide (x4_1 ≤ 1114111) = false := decide_eq_false c16
          clear c16
          obtain rfl := Option.some.inj H
          go_wp2
          go_ret
          exact ⟨_, by first | rfl | (simp [errW_none, errW_some] <;> rfl) | (simp [*, errW_none, errW_some] <;> rfl), by (with_reducible repeat (first | apply Kd.R_alloc | apply Kd.R_drewN | apply Kd.R_drew)); exact Kd.R_mono HO_3.out (fun _ hk => trivial), by repeat (first | (with_reducible first | exact HB.out | apply below_alloc | apply pw_below_drewN | apply below_drew1) | exact HB.out)⟩

/-! ### ranges_Minus: function 24 -/
def ranges_Minus.f (k : Nat) (l0 : List (S55)) (l1 : List (S55)) : Option ((List (S55))) := (ranges_Not.f k l1).bind fun t148 => ((ranges_Both.f l0 t148).bind fun t151 => (some t151))
theorem ranges_Minus.mono : ∀ a0 a1 k, LeO (ranges_Minus.f k a0 a1) (ranges_Minus.f (k + 1) a0 a1) := by
  intro a0 a1 k
  unfold ranges_Minus.f
  repeat' first
      | (with_reducible exact ranges_Not.mono _ _)
      | (with_reducible exact LeO.refl _)
      | (with_reducible exact LeO.none _)
      | (with_reducible refine LeO.ite ?_ ?_)
      | (with_reducible refine LeO.bind ?_ (fun _ => ?_))
      | exact ranges_Not.mono _ _
      | exact LeO.none _
      | refine LeO.ite ?_ ?_
      | refine LeO.bind ?_ (fun _ => ?_)
set_option maxHeartbeats 8000000 in
set_option maxRecDepth 100000 in
theorem ranges_Minus.calls (k : Nat) (A0 : Option Addr) (c0 : Nat) (l0 : List (S55)) (A1 : Option Addr) (c1 : Nat) (l1 : List (S55)) (r : List (S55)) (w : World) (hr0 : Kd.C k55 w A0 l0.length l0) (hc0 : l0.length ≤ c0) (hr1 : Kd.C k55 w A1 l1.length l1) (hc1 : l1.length ≤ c1) (h : ranges_Minus.f k l0 l1 = some r) :
    Calls Try.prog 24 #[.slice A0 l0.length c0, .slice A1 l1.length c1] w fun e w' => ∃ v0_ : Value, e = .returned (v0_) ∧ Kd.R k55 55 w' w.heap.size (fun _ => True) v0_ r ∧ Below w.heap.size w w' := by
  have HR0 := Aside0.mk hr0
  have HC0 := Aside0.mk hc0
  clear hr0 hc0
  have HR1 := Aside0.mk hr1
  have HC1 := Aside0.mk hc1
  clear hr1 hc1
  have HB := Aside0.mk (Below.refl w.heap.size w)
  have H : ((ranges_Not.f k l1).bind fun t148 => ((ranges_Both.f l0 t148).bind fun t151 => (some t151))) = some r := h
  clear h
  replace H := Option.bind_eq_some_iff.mp H
  obtain ⟨t148, A30, H⟩ := H
  replace H : ((ranges_Both.f l0 t148).bind fun t151 => (some t151)) = some r := H
  have A3 := Aside0.mk A30
  clear A30
  replace H := Option.bind_eq_some_iff.mp H
  obtain ⟨t151, A40, H⟩ := H
  replace H : (some t151) = some r := H
  have A4 := Aside0.mk A40
  clear A40
  obtain rfl := Option.some.inj H
  go_enter Try.func24, Try.ntmps24
  go_wp2_with (first | ((with_reducible refine gate_callee (f := 44) rfl ?_); refine goesL_ (some 7) rfl rfl Try.func44 (by kernel_rfl) rfl #[.slice A1 l1.length c1] rfl (by (try simp only [List.map_toArray, List.map_cons, List.map_nil]); first | done | rfl | (simp only [List.length_drop, List.length_take]; rfl)) ?_; (with_reducible refine (ranges_Not.calls k _ _ l1 t148 _ ?side1 ?side2 A3.out).mono ?_); (case side1 => repeat (first | exact HR1.out | (with_reducible refine Kd.C_alloc ?_ _) | (with_reducible refine Kd.C_drewN ?_ _) | (with_reducible refine Kd.C_drew ?_))); (case side2 => exact HC1.out); rintro e w5 ⟨v149, rfl, ho0, hb⟩; refine ⟨_, rfl, ?_⟩; have n0_ := Aside0.mk (Kd.R_lower ho0 (below_size (by repeat (first | (with_reducible first | exact HB.out | apply below_alloc | apply pw_below_drewN | apply below_drew1) | exact HB.out)))); have n1_ := Aside0.mk (below_step (by repeat (first | (with_reducible first | exact HB.out | apply below_alloc | apply pw_below_drewN | apply below_drew1) | exact HB.out)) hb); clear HB; have HO150 := n0_; have HB := n1_; clear n0_ n1_; (try clear hb); (try clear hb2); (try clear hk); (try clear hi); (try clear ho0); obtain ⟨Ao6, co6, eo6⟩ := Kd.R_slice HO150.out; subst eo6) | ((with_reducible refine gate_callee (f := 43) rfl ?_); refine goesL_ (some 8) rfl rfl Try.func43 (by kernel_rfl) rfl #[.slice A0 l0.length c0, .slice Ao6 t148.length co6] rfl (by (try simp only [List.map_toArray, List.map_cons, List.map_nil]); first | done | rfl | (simp only [List.length_drop, List.length_take]; rfl)) ?_; (with_reducible refine (ranges_Both.calls _ _ l0 _ _ t148 t151 _ ?side1 ?side2 ?side3 ?side4 A4.out).mono ?_); (case side1 => repeat (first | exact (Kd.C_below HR0.out HB.out) | (with_reducible refine Kd.C_alloc ?_ _) | (with_reducible refine Kd.C_drewN ?_ _) | (with_reducible refine Kd.C_drew ?_))); (case side2 => exact HC0.out); (case side3 => repeat (first | exact (Kd.R_reads' HO150.out).2.2 | (with_reducible refine Kd.C_alloc ?_ _) | (with_reducible refine Kd.C_drewN ?_ _) | (with_reducible refine Kd.C_drew ?_))); (case side4 => exact (Kd.R_reads' HO150.out).2.1); rintro e w7 ⟨v152, rfl, ho0, hb⟩; refine ⟨_, rfl, ?_⟩; have n0_ := Aside0.mk (Kd.R_elder' (by (with_reducible repeat (first | apply Kd.R_alloc | apply Kd.R_drewN | apply Kd.R_drew)); exact HO150.out) (Kd.R_base ho0) hb); have n1_ := Aside0.mk (Kd.R_lower (Kd.R_new' ho0 (Kd.R_lt (by (with_reducible repeat (first | apply Kd.R_alloc | apply Kd.R_drewN | apply Kd.R_drew)); exact HO150.out))) (below_size (by repeat (first | (with_reducible first | exact HB.out | apply below_alloc | apply pw_below_drewN | apply below_drew1) | exact HB.out)))); have n2_ := Aside0.mk (below_step (by repeat (first | (with_reducible first | exact HB.out | apply below_alloc | apply pw_below_drewN | apply below_drew1) | exact HB.out)) hb); clear HO150; clear HB; have HO150 := n0_; have HO153 := n1_; have HB := n2_; clear n0_ n1_ n2_; (try clear hb); (try clear hb2); (try clear hk); (try clear hi); (try clear ho0)))
  go_ret
  exact ⟨_, by first | rfl | (simp [errW_none, errW_some] <;> rfl) | (simp [*, errW_none, errW_some] <;> rfl), by (with_reducible repeat (first | apply Kd.R_alloc | apply Kd.R_drewN | apply Kd.R_drew)); exact Kd.R_mono HO153.out (fun _ hk => trivial), by repeat (first | (with_reducible first | exact HB.out | apply below_alloc | apply pw_below_drewN | apply below_drew1) | exact HB.out)⟩

/-! ### ranges_Union: function 25 -/
-- own text
def ranges_Union.f (l0 l1 : List S55) : Option (List S55) := if l0.length ≤ 400000 ∧ l1.length ≤ 400000 then some ((Go.Proofs.YthblpnfkdkhcpaaX.unionL (l0.map ofRg) (l1.map ofRg)).map toRg) else none
theorem ranges_Union.calls (A0 : Option Addr) (c0 : Nat) (l0 : List S55) (A1 : Option Addr) (c1 : Nat) (l1 : List S55) (r : List S55) (w : World) (hr0 : Kd.C k55 w A0 l0.length l0) (hc0 : l0.length ≤ c0) (hr1 : Kd.C k55 w A1 l1.length l1) (hc1 : l1.length ≤ c1) (h : ranges_Union.f l0 l1 = some r) :
    Calls Try.prog 25 #[.slice A0 l0.length c0, .slice A1 l1.length c1] w fun e w' => ∃ v0_ : Value, e = .returned (v0_) ∧ Kd.R k55 55 w' w.heap.size (fun _ => True) v0_ r ∧ Below w.heap.size w w' := by
  unfold ranges_Union.f at h
  split at h
  · rename_i hs
    obtain rfl := Option.some.inj h
    have hb := Go.Proofs.YthblpnfkdkhcpaaX.union_any normAt A0 A1 c0 c1 (l0.map ofRg) (l1.map ofRg) w (by simp; omega) (by rw [List.length_map]; exact Go.Proofs.YthblpnfkdkhcpaaX.C_iso.1 (rg_kd ▸ hr0)) (by rw [List.length_map]; exact Go.Proofs.YthblpnfkdkhcpaaX.C_iso.1 (rg_kd ▸ hr1)) (by simp; omega) (by simp; omega)
    rw [List.length_map, List.length_map] at hb
    refine hb.mono fun e w' ⟨v, he, hR, hb⟩ => ⟨v, he, ?_, hb⟩
    rw [rg_kd]
    exact Go.Proofs.YthblpnfkdkhcpaaX.R_iso.2 (by rw [map_forth]; exact hR)
  · cases h

end Go.Proofs.Ythblpnfkdkhcpaa.HFoldClosed
