-- Made by wip/hyb (a program of this session over the kit's print); its parts marked 'own text' are typed by hand.
import Derived.Test.YtoihlfiacnljhaaHBandsSplitsx0
import Derived.Test.YtoihlfiacnljhaaHBandsSplitsx2
import Derived.Test.YtoihlfiacnljhaaHBandsSplitsx5
import Derived.Test.YtoihlfiacnljhaaHBandsSplitsx6
namespace Go.Proofs.Ytoihlfiacnljhaa.HBandsSplits
open Go.RowKit Go.Proofs.YtoihlfiacnljhaaW.PrintWords Go.Proofs.YtoihlfiacnljhaaW.PrintLast Go.Proofs.YtoihlfiacnljhaaW.PrintMore
attribute [local go_sem] max2_int min2_int max_two min_two max_three min_three max_four min_four   -- for this text's walks alone
set_option linter.unusedVariables false
set_option linter.unusedSimpArgs false

/-! own text: what ranges.Norm comes to -/
section
open Go.Proofs.YtoihlfiacnljhaaX
theorem wrap_rg {x : Int} (h0 : -9223372036854775808 ≤ x) (h1 : x ≤ 9223372036854775807) : wrap64 x = x := by
  unfold wrap64
  omega
theorem mx_rg (a b : Int) : mx a b = max a b := by unfold mx; split <;> omega
theorem mn_rg (a b : Int) : mn a b = min a b := by unfold mn; split <;> omega
theorem rd_rg (s : List (Int × Int)) (i : Nat) (h : i < s.length) : rd_T41 (s.map toRg) (i : Int) = toRg s[i] := by
  simp [rd_T41, h]
theorem norm_l1 (s : List (Int × Int)) (hs : ∀ x ∈ s, 0 ≤ x.1 ∧ x.1 ≤ x.2 ∧ x.2 ≤ 1114111) (hn : s.length ≤ 1000000) (d : Nat) : ∀ (i : Nat) (p : List (Int × Int)) (c : Int × Int), i ≤ s.length → s.length - i = d → p.length + d ≤ 1000000 → 0 ≤ c.2 → c.2 ≤ 1114111 →
    Ev (fun k => ranges_Norm.l1 k ((p ++ [c]).map toRg) (s.map toRg) (s.length : Int) i) ((p ++ go1 c (s.drop i)).map toRg) := by
  induction d with
  | zero =>
    intro i p c hi hd hp h0 h1
    have e : i = s.length := by omega
    subst e
    refine Ev.step (fun k => ?_) (Ev.now _)
    simp only [ranges_Norm.l1]
    rw [if_neg (by omega), List.drop_of_length_le (Nat.le_refl _)]
    rfl
  | succ d ih =>
    intro i p c hi hd hp h0 h1
    have hlt : i < s.length := by omega
    have hx := hs _ (List.getElem_mem hlt)
    have hlen : (((p ++ [c]).map toRg).length : Int) = p.length + 1 := by simp
    have hlast : rd_T41 ((p ++ [c]).map toRg) (p.length : Int) = toRg c := by
      rw [rd_rg (p ++ [c]) p.length (by simp)]; simp
    have hstep : ∀ k, ranges_Norm.l1 (k + 1) ((p ++ [c]).map toRg) (s.map toRg) (s.length : Int) i = if s[i].1 ≤ c.2 + 1 then ranges_Norm.l1 k ((p ++ [(c.1, max c.2 s[i].2)]).map toRg) (s.map toRg) (s.length : Int) ((i + 1 : Nat) : Int) else ranges_Norm.l1 k (((p ++ [c]) ++ [s[i]]).map toRg) (s.map toRg) (s.length : Int) ((i + 1 : Nat) : Int) := by
      intro k
      simp only [ranges_Norm.l1]
      rw [if_pos (by omega), if_pos (by omega), if_pos (by simp; omega), hlen, if_pos (by omega), wrap_rg (x := (p.length : Int) + 1 - 1) (by omega) (by omega), show (p.length : Int) + 1 - 1 = p.length by omega, if_pos (by omega), if_pos (by omega), hlast, rd_rg s i hlt]
      rw [show (toRg c).f1 = c.2 from rfl, show (toRg c).f0 = c.1 from rfl, show (toRg s[i]).f0 = s[i].1 from rfl, show (toRg s[i]).f1 = s[i].2 from rfl, wrap_rg (x := c.2 + 1) (by omega) (by omega), wrap_rg (x := (i : Int) + 1) (by omega) (by omega), show (i : Int) + 1 = ((i + 1 : Nat) : Int) by omega, mx_rg]
      have hset : ((p ++ [c]).map toRg).set (p.length : Int).toNat (⟨c.1, max c.2 s[i].2⟩ : S41) = (p ++ [(c.1, max c.2 s[i].2)]).map toRg := by
        rw [Int.toNat_natCast, List.map_append, List.map_append, List.set_append_right _ _ (by simp)]
        simp [toRg]
      have happ : (p ++ [c]).map toRg ++ [(⟨s[i].1, s[i].2⟩ : S41)] = ((p ++ [c]) ++ [s[i]]).map toRg := by simp [toRg]
      rw [hset, if_pos (c := (List.map toRg (p ++ [c])).length < 8796093022208) (by simp; omega), happ]
    have hgo : go1 c (s.drop i) = if s[i].1 ≤ c.2 + 1 then go1 (c.1, max c.2 s[i].2) (s.drop (i + 1)) else c :: go1 s[i] (s.drop (i + 1)) := by
      rw [List.drop_eq_getElem_cons hlt]; rfl
    rw [hgo]
    by_cases h : s[i].1 ≤ c.2 + 1
    · rw [if_pos h]
      exact Ev.step (fun k => by rw [hstep k, if_pos h]) (ih (i + 1) p (c.1, max c.2 s[i].2) (by omega) (by omega) (by omega) (by show 0 ≤ max c.2 s[i].2; omega) (by show max c.2 s[i].2 ≤ 1114111; omega))
    · rw [if_neg h]
      have := ih (i + 1) (p ++ [c]) s[i] (by omega) (by omega) (by simp; omega) (by omega) (by omega)
      rw [show p ++ c :: go1 s[i] (s.drop (i + 1)) = (p ++ [c]) ++ go1 s[i] (s.drop (i + 1)) by simp]
      exact Ev.step (fun k => by rw [hstep k, if_neg h]) this
theorem norm_merge (s : List (Int × Int)) (hs : ∀ x ∈ s, 0 ≤ x.1 ∧ x.1 ≤ x.2 ∧ x.2 ≤ 1114111) (hn : s.length ≤ 900000) :
    Ev (fun k => ranges_Norm.l1 k ([] : List S41) (s.map toRg) (s.length : Int) 0) ((mergeL s).map toRg) := by
  cases s with
  | nil =>
    refine Ev.step (fun k => ?_) (Ev.now _)
    simp only [ranges_Norm.l1]
    rw [if_neg (by simp)]
    rfl
  | cons x t =>
    have hx := hs x (by simp)
    have h := norm_l1 (x :: t) hs (by omega) t.length 1 [] x (by simp) (by simp) (by simp at hn ⊢; omega) (by omega) (by omega)
    refine Ev.step (fun k => ?_) h
    simp only [ranges_Norm.l1]
    rw [if_pos (by first | omega | (simp; done) | (simp; omega)), if_pos (by omega), if_pos (by first | omega | (simp; done) | (simp; omega)), if_neg (by simp), if_pos (by simp), show ((0 : Int)) = ((0 : Nat) : Int) from rfl, rd_rg (x :: t) 0 (by simp), wrap_rg (x := ((0 : Nat) : Int) + 1) (by omega) (by omega)]
    rfl
theorem norm_l0 (l : List S41) (hn : l.length ≤ 900000) (d : Nat) : ∀ (i : Nat) (x3 : List (Int × Int)), i ≤ l.length → l.length - i = d → x3.length + d ≤ 900000 → (∀ x ∈ x3, 0 ≤ x.1 ∧ x.1 ≤ x.2 ∧ x.2 ≤ 1114111) →
    Ev (fun k => ranges_Norm.l0 k (x3.map toRg) l (l.length : Int) i) ((mergeL (sortLo (x3 ++ ((l.drop i).map ofRg).flatMap clip))).map toRg) := by
  induction d with
  | zero =>
    intro i x3 hi hd hx hr
    have e : i = l.length := by omega
    subst e
    rw [List.drop_of_length_le (Nat.le_refl _), List.map_nil, List.flatMap_nil, List.append_nil]
    have hp := sortLo_perm x3
    have hm := norm_merge (sortLo x3) (fun x hx => hr x (hp.mem_iff.1 hx)) (by rw [hp.length_eq]; omega)
    refine Ev.step (fun k => ?_) hm
    simp only [ranges_Norm.l0]
    rw [if_neg (by omega)]
    unfold ext_sortRange.f
    rw [if_pos (by simp; omega)]
    have e : (x3.map toRg).map ofRg = x3 := by rw [List.map_map]; exact List.map_id'' (fun x => ofRg_toRg x) x3
    rw [e, Option.bind_some, show ((x3.map toRg).length : Int) = ((sortLo x3).length : Int) by rw [hp.length_eq]; simp]
  | succ d ih =>
    intro i x3 hi hd hx hr
    have hlt : i < l.length := by omega
    have hrd : rd_T41 l (i : Int) = l[i] := by simp [rd_T41, hlt]
    rw [List.drop_eq_getElem_cons hlt, List.map_cons, List.flatMap_cons, ← List.append_assoc]
    have hclip : clip (ofRg l[i]) = if max l[i].f0 0 ≤ min l[i].f1 1114111 then [(max l[i].f0 0, min l[i].f1 1114111)] else [] := rfl
    have hlc : (clip (ofRg l[i])).length ≤ 1 := by rw [hclip]; split <;> simp
    have h := ih (i + 1) (x3 ++ clip (ofRg l[i])) (by omega) (by omega) (by rw [List.length_append]; omega) (fun x hx' => by
      rcases List.mem_append.1 hx' with h | h
      · exact hr x h
      · exact clip_range (l := [ofRg l[i]]) (by simpa using h))
    refine Ev.step (fun k => ?_) h
    simp only [ranges_Norm.l0]
    rw [if_pos (by omega), if_pos (by omega), if_pos (by omega), hrd, mx_rg, mn_rg, wrap_rg (x := (i : Int) + 1) (by omega) (by omega), show (i : Int) + 1 = ((i + 1 : Nat) : Int) by omega, hclip]
    by_cases hc : max l[i].f0 0 ≤ min l[i].f1 1114111
    · rw [if_pos hc, if_pos hc, if_pos (by simp; omega)]
      simp [toRg]
    · rw [if_neg hc, if_neg hc, List.append_nil]
theorem norm_ev (l : List S41) (hn : l.length ≤ 900000) : Ev (fun k => ranges_Norm.f k l) ((normL (l.map ofRg)).map toRg) := by
  have := norm_l0 l hn l.length 0 [] (Nat.zero_le _) (by omega) (by simp; omega) (fun x hx => by simp at hx)
  unfold ranges_Norm.f normL
  simpa using this
theorem map_back (l : List S41) : (l.map ofRg).map toRg = l := by rw [List.map_map]; exact List.map_id'' (fun x => toRg_ofRg x) l
theorem map_forth (l : List (Int × Int)) : (l.map toRg).map ofRg = l := by rw [List.map_map]; exact List.map_id'' (fun x => ofRg_toRg x) l
theorem normAt : NormAt normL (fun l => l.length ≤ 900000) := by
  intro A c l w hn hC hc
  obtain ⟨k, hk⟩ := Ev.rounds (norm_ev (l.map toRg) (by simpa using hn))
  rw [map_forth] at hk
  have hC' : Kd.C k41 w A (l.map toRg).length (l.map toRg) := by
    rw [rg_kd]
    exact C_iso.2 (by rw [map_forth, List.length_map]; exact hC)
  have h := ranges_Norm.calls k A c (l.map toRg) _ w hC' (by simpa using hc) hk
  rw [List.length_map] at h
  refine h.mono fun e w' ⟨v, he, hR, hb⟩ => ⟨v, he, ?_, hb⟩
  have := R_iso.1 (rg_kd ▸ hR)
  rwa [map_forth] at this
end

/-! ### bands_Of: function 19 -/
def bands_Of.l0 : Nat → List (List (S41)) → List (S41) → Int → Int → Option ((List (List (S41))))
  | 0, _, _, _, _ => none
  | k + 1, x3, x7, x8, x9 => if x9 < x8 then (if 0 ≤ x9 then (if x9 < (x7.length : Int) then ((bands_Split.f ((rd_T41 x7 x9).f0) ((rd_T41 x7 x9).f1)).bind fun t208 => (if x3.length + t208.length < 5864062014805 then (bands_Of.l0 k (x3 ++ t208) x7 x8 (wrap64 (x9 + 1))) else (none))) else (none)) else (none)) else (some x3)
def bands_Of.f (k : Nat) (l0 : List (S41)) : Option ((List (List (S41)))) := (ranges_Norm.f k l0).bind fun t203 => (bands_Of.l0 k ([] : List (List (S41))) t203 (t203.length : Int) 0)
theorem bands_Of.mono_l : ∀ k, (∀ y0 y1 y2 y3, LeO (bands_Of.l0 k y0 y1 y2 y3) (bands_Of.l0 (k + 1) y0 y1 y2 y3))
  | 0 => fun _ _ _ _ r h => by simp [bands_Of.l0] at h
  | k + 1 => by
    have ih0 := bands_Of.mono_l k
    · intro y0 y1 y2 y3
      unfold bands_Of.l0
      repeat' first
      | (with_reducible exact ih0 _ _ _ _)
      | (with_reducible exact ranges_Norm.mono _ _)
      | (with_reducible exact LeO.refl _)
      | (with_reducible exact LeO.none _)
      | (with_reducible refine LeO.ite ?_ ?_)
      | (with_reducible refine LeO.bind ?_ (fun _ => ?_))
      | exact ih0 _ _ _ _
      | exact ranges_Norm.mono _ _
      | exact LeO.none _
      | refine LeO.ite ?_ ?_
      | refine LeO.bind ?_ (fun _ => ?_)
theorem bands_Of.mono : ∀ a0 k, LeO (bands_Of.f k a0) (bands_Of.f (k + 1) a0) := by
  intro a0 k
  have ih0 := bands_Of.mono_l k
  unfold bands_Of.f
  repeat' first
      | (with_reducible exact ih0 _ _ _ _)
      | (with_reducible exact ranges_Norm.mono _ _)
      | (with_reducible exact LeO.refl _)
      | (with_reducible exact LeO.none _)
      | (with_reducible refine LeO.ite ?_ ?_)
      | (with_reducible refine LeO.bind ?_ (fun _ => ?_))
      | exact ih0 _ _ _ _
      | exact ranges_Norm.mono _ _
      | exact LeO.none _
      | refine LeO.ite ?_ ?_
      | refine LeO.bind ?_ (fun _ => ?_)
set_option maxHeartbeats 8000000 in
set_option maxRecDepth 100000 in
theorem bands_Of.calls (k : Nat) (A0 : Option Addr) (c0 : Nat) (l0 : List (S41)) (r : List (List (S41))) (w : World) (hr0 : Kd.C k41 w A0 l0.length l0) (hc0 : l0.length ≤ c0) (h : bands_Of.f k l0 = some r) :
    Calls Try.prog 19 #[.slice A0 l0.length c0] w fun e w' => ∃ v0_ : Value, e = .returned (v0_) ∧ Kd.N (Kd.slice 41 k41) 29 w' w.heap.size (fun k_ => (w.heap.size ≤ k_)) v0_ r ∧ Below w.heap.size w w' := by
  have hu41 := Try.underlying41
  have HR0 := Aside0.mk hr0
  have HC0 := Aside0.mk hc0
  clear hr0 hc0
  have HB := Aside0.mk (Below.refl w.heap.size w)
  have H : ((ranges_Norm.f k l0).bind fun t203 => (bands_Of.l0 k ([] : List (List (S41))) t203 (t203.length : Int) 0)) = some r := h
  clear h
  replace H := Option.bind_eq_some_iff.mp H
  obtain ⟨t203, A20, H⟩ := H
  replace H : (bands_Of.l0 k ([] : List (List (S41))) t203 (t203.length : Int) 0) = some r := H
  have A2 := Aside0.mk A20
  clear A20
  have H' := Aside0.mk H
  clear H
  go_enter Try.func19, Try.ntmps19
  go_wp2_with (first | ((with_reducible refine gate_callee (f := 34) rfl ?_); refine goesL_ (some 7) rfl rfl Try.func34 (by kernel_rfl) rfl #[.slice A0 l0.length c0] rfl (by (try simp only [List.map_toArray, List.map_cons, List.map_nil]); first | done | rfl | (simp only [List.length_drop, List.length_take]; rfl)) ?_; (with_reducible refine (ranges_Norm.calls k _ _ l0 t203 _ ?side1 ?side2 A2.out).mono ?_); (case side1 => repeat (first | exact HR0.out | (with_reducible refine Kd.C_alloc ?_ _) | (with_reducible refine Kd.C_drewN ?_ _) | (with_reducible refine Kd.C_drew ?_))); (case side2 => exact HC0.out); rintro e w3 ⟨v204, rfl, ho0, hb⟩; refine ⟨_, rfl, ?_⟩; have n0_ := Aside0.mk (Kd.R_lower (Kd.R_newM (M := fun k_ => (w.heap.size ≤ k_)) ho0 (below_size (by repeat (first | (with_reducible first | exact HB.out | apply below_alloc | apply pw_below_drewN | apply below_drew1) | exact HB.out))) (fun k_ h_ => h_)) (below_size (by repeat (first | (with_reducible first | exact HB.out | apply below_alloc | apply pw_below_drewN | apply below_drew1) | exact HB.out)))); have n1_ := Aside0.mk (below_step (by repeat (first | (with_reducible first | exact HB.out | apply below_alloc | apply pw_below_drewN | apply below_drew1) | exact HB.out)) hb); clear HB; have HO205 := n0_; have HB := n1_; clear n0_ n1_; (try clear hb); (try clear hb2); (try clear hk); (try clear hi); (try clear ho0); obtain ⟨Ao4, co4, eo4⟩ := Kd.R_slice HO205.out; subst eo4))
  go_loopg [3, 9] k (fun kq v3 v9 w' => ∃ (x3_1 : List (List (S41))) (x9_1 : Int), v9 = .int .i64 x9_1 ∧ Aside0 (bands_Of.l0 kq x3_1 t203 (t203.length : Int) x9_1 = some r) ∧ Aside0 (kq ≤ k) ∧ Aside0 (Kd.N (Kd.slice 41 k41) 29 w' w.heap.size (fun k_ => (w.heap.size ≤ k_) ∧ some k_ ≠ ((.slice Ao4 t203.length co4) : Value).ownBlock) v3 x3_1) ∧ Aside0 (Kd.R k41 41 w' w.heap.size (fun k_ => (w.heap.size ≤ k_)) (.slice Ao4 t203.length co4) t203) ∧ Aside0 (Below w.heap.size w w'))
  case atStart => exact ⟨(([] : List (List (S41)))), (0), (by first | rfl | (simp; done) | (simp [*]; done)), H', ⟨Nat.le_refl _⟩, ⟨by first | exact Kd.S_nil _ _ _ _ _ | exact Kd.N_nil _ _ _ _ _ | exact Kd.V_nil _ _ _ _ _ | exact Kd.Q_nil _ _ _ _ _ | exact Kd.R_nil _ _ _ _ _⟩, ⟨by (with_reducible repeat (first | apply Kd.R_alloc | apply Kd.R_drewN | apply Kd.R_drew)); exact Kd.R_mono HO205.out (fun _ hk => hk.1)⟩, ⟨by repeat (first | (with_reducible first | exact HB.out | apply below_alloc | apply pw_below_drewN | apply below_drew1) | exact HB.out)⟩⟩
  case round =>
    clear H'
    try clear c1
    try clear p2
    try clear c3
    obtain ⟨x3_1, x9_1, rfl, HA, HK1, HO_3, HO_7, HB⟩ := hrel
    cases gk with
    | zero => exact absurd HA.out (by simp [bands_Of.l0])
    | succ k1 =>
      have H := HA.out
      clear HA
      simp only [bands_Of.l0] at H
      by_cases c5 : x9_1 < (t203.length : Int)
      · rw [if_pos c5] at H
        have c5b0 : decide (x9_1 < (t203.length : Int)) = true := decide_eq_true c5
        clear c5
        by_cases c6 : 0 ≤ x9_1
        · rw [if_pos c6] at H
          have c6b0 : decide (0 ≤ x9_1) = true := decide_eq_true c6
          clear c6
          by_cases c7 : x9_1 < (t203.length : Int)
          · rw [if_pos c7] at H
            have c7b0 : decide (x9_1 < (t203.length : Int)) = true := decide_eq_true c7
            clear c7
            replace H := Option.bind_eq_some_iff.mp H
            obtain ⟨t208, A80, H⟩ := H
            replace H : (if x3_1.length + t208.length < 5864062014805 then (bands_Of.l0 k1 (x3_1 ++ t208) t203 (t203.length : Int) (wrap64 (x9_1 + 1))) else (none)) = some r := H
            have A8 := Aside0.mk A80
            clear A80
            by_cases c9 : x3_1.length + t208.length < 5864062014805
            · rw [if_pos c9] at H
              have LMc9 := Aside0.mk c9
              clear c9
              obtain ⟨y211, hy211⟩ : ∃ y_ : List (List (S41)), y_ = (x3_1 ++ t208) := ⟨_, rfl⟩
              replace H : (bands_Of.l0 k1 y211 t203 (t203.length : Int) (wrap64 (x9_1 + 1))) = some r := by first | (rw [hy211]; with_reducible exact H) | (have H2_ := (Option.bind_some _ _).symm.trans H; rw [hy211]; with_reducible exact H2_) | (have H2_ := (Option.bind_some _ _).symm.trans H; with_reducible exact H2_) | with_reducible exact H | (rw [hy211]; exact H) | exact H
              have Ny211 := Aside0.mk hy211
              clear hy211
              have H' := Aside0.mk H
              clear H
              have p206 : 0 ≤ (x9_1 : Int) := of_decide_eq_true (by first | (with_reducible assumption) | assumption)
              have q206 : x9_1 < (t203.length : Int) := of_decide_eq_true (by first | (with_reducible assumption) | assumption)
              obtain ⟨ad206, e206, hx206_0, hx206_1⟩ := at_T41 (Kd.R_reads' HO_7.out).2.2 x9_1 p206 q206
              cases e206
              replace p206 := eq_true p206
              replace q206 := eq_true q206
              go_wp2_with (first | ((with_reducible refine gate_dst (N := 5) rfl ?_); refine box_event ?hg (N := 5) ?hd (cs := #[.int .i64 0, .int .i64 0]) (t := 41) ?hr ?_; (case hd => rfl); (case hg => rfl); (case hr => first | (go_simp; done) | (go_simp; rfl)); intro gb207 hg w10 hbox hb; have n0_ := Aside0.mk (Kd.N_below (Kd.N_elderB (by (with_reducible repeat (first | apply Kd.N_alloc | apply Kd.N_drewN | apply Kd.N_drew)); exact HO_3.out) gb207 (Nat.le_of_eq hg.symm)) hb); have n1_ := Aside0.mk (Kd.R_below (Kd.R_elderB (by (with_reducible repeat (first | apply Kd.R_alloc | apply Kd.R_drewN | apply Kd.R_drew)); exact HO_7.out) gb207 (Nat.le_of_eq hg.symm)) hb); have n2_ := Aside0.mk (below_step (by repeat (first | (with_reducible first | exact HB.out | apply below_alloc | apply pw_below_drewN | apply below_drew1) | exact HB.out)) hb); have n3_ := Aside0.mk (hbox); have n4_ := Aside0.mk ((by rw [hg]; exact (below_size (by repeat (first | (with_reducible first | exact HB.out | apply below_alloc | apply pw_below_drewN | apply below_drew1) | exact HB.out))) : w.heap.size ≤ gb207)); have n5_ := Aside0.mk ((by rw [hg]; exact (below_size (by repeat (first | (with_reducible first | exact HB.out | apply below_alloc | apply pw_below_drewN | apply below_drew1) | exact HB.out))) : w.heap.size ≤ gb207)); clear HO_3; clear HO_7; clear HB; have HO_3 := n0_; have HO_7 := n1_; have HB := n2_; have BK207 := n3_; have GW207 := n4_; have GE207 := n5_; clear n0_ n1_ n2_ n3_ n4_ n5_; clear hb hbox hg; have hcz11_0 : w10.cell? ⟨gb207, 0, none⟩ = some (.int .i64 0) := (blk_cell BK207.out 0).trans rfl; have hcz11_1 : w10.cell? ⟨gb207, 1, none⟩ = some (.int .i64 0) := (blk_cell BK207.out 1).trans rfl; have hfz11_0 := blk_frozen BK207.out 0; have hfz11_1 := blk_frozen BK207.out 1; have hcy11_a : ∀ u, (w10.setCell ⟨gb207, 0, none⟩ u).cell? ⟨gb207, 1, none⟩ = some (.int .i64 0) := fun u => (blk_cell (blk_put BK207.out 0 u rfl) 1).trans rfl; have hcy11_b : ∀ u v, ((w10.setCell ⟨gb207, 0, none⟩ u).setCell ⟨gb207, 1, none⟩ v).cell? ⟨gb207, 0, none⟩ = some u := fun u v => (blk_cell (blk_put (blk_put BK207.out 0 u rfl) 1 v rfl) 0).trans rfl; have hcy11_c : ∀ u v u1, (((w10.setCell ⟨gb207, 0, none⟩ u).setCell ⟨gb207, 1, none⟩ v).setCell ⟨gb207, 0, none⟩ u1).cell? ⟨gb207, 1, none⟩ = some v := fun u v u1 => (blk_cell (blk_put (blk_put (blk_put BK207.out 0 u rfl) 1 v rfl) 0 u1 rfl) 1).trans rfl) | ((with_reducible refine gate_callee (f := 17) rfl ?_); refine goesL_ (some 18) rfl rfl Try.func17 (by kernel_rfl) rfl #[.int .i64 ((rd_T41 t203 x9_1).f0), .int .i64 ((rd_T41 t203 x9_1).f1)] rfl (by (try simp only [List.map_toArray, List.map_cons, List.map_nil]); first | done | rfl | (simp only [List.length_drop, List.length_take]; rfl)) ?_; (with_reducible refine (bands_Split.calls ((rd_T41 t203 x9_1).f0) ((rd_T41 t203 x9_1).f1) t208 _ A8.out).mono ?_); rintro e w12 ⟨v209, rfl, ho0, hb⟩; refine ⟨_, rfl, ?_⟩; have n0_ := Aside0.mk (Kd.N_elder' (by (with_reducible repeat (first | apply Kd.N_alloc | apply Kd.N_drewN | apply Kd.N_drew)); exact (Kd.N_mono (Kd.N_far (p := ⟨gb207, 1, none⟩) (Kd.N_far (p := ⟨gb207, 0, none⟩) (Kd.N_mono HO_3.out (fun k_ hk => (⟨hk, hk.2⟩ : _ ∧ k_ ≠ gb207))) (fun _ hk => hk.2) (.int .i64 ((rd_T41 t203 x9_1).f0))) (fun _ hk => hk.2) (.int .i64 ((rd_T41 t203 x9_1).f1))) (fun _ h_ => h_.1))) (by first | exact Kd.N_base ho0 | exact Kd.S_base ho0) hb); have n1_ := Aside0.mk (Kd.R_below (by (with_reducible repeat (first | apply Kd.R_alloc | apply Kd.R_drewN | apply Kd.R_drew)); exact (Kd.R_mono (Kd.R_far (p := ⟨gb207, 1, none⟩) (Kd.R_far (p := ⟨gb207, 0, none⟩) (Kd.R_mono HO_7.out (fun k_ hk => (⟨hk, hk.2⟩ : _ ∧ k_ ≠ gb207))) (fun _ hk => hk.2) (.int .i64 ((rd_T41 t203 x9_1).f0))) (fun _ hk => hk.2) (.int .i64 ((rd_T41 t203 x9_1).f1))) (fun _ h_ => h_.1))) hb); have n2_ := Aside0.mk (Kd.N_lower (Kd.N_mono (ok' := fun k_ => (w.heap.size ≤ k_) ∧ some k_ ≠ (u3 : Value).ownBlock ∧ some k_ ≠ (.slice (some ad206) t203.length co4 : Value).ownBlock ∧ k_ ≠ gb207) (Kd.S_N (Kd.S_bound ho0)) (fun k_ hk_ => ⟨(Nat.le_trans (below_size (by repeat (first | (with_reducible first | exact HB.out | apply below_alloc | apply pw_below_drewN | apply below_drew1 | refine below_set ?_ GE207.out) | exact HB.out))) hk_.2.1), (Kd.fresh' (Kd.N_lt (by (with_reducible repeat (first | apply Kd.N_alloc | apply Kd.N_drewN | apply Kd.N_drew)); exact (Kd.N_mono (Kd.N_far (p := ⟨gb207, 1, none⟩) (Kd.N_far (p := ⟨gb207, 0, none⟩) (Kd.N_mono HO_3.out (fun k_ hk => (⟨hk, hk.2⟩ : _ ∧ k_ ≠ gb207))) (fun _ hk => hk.2) (.int .i64 ((rd_T41 t203 x9_1).f0))) (fun _ hk => hk.2) (.int .i64 ((rd_T41 t203 x9_1).f1))) (fun _ h_ => h_.1)))) k_ hk_.2.1), (Kd.fresh' (Kd.R_lt (by (with_reducible repeat (first | apply Kd.R_alloc | apply Kd.R_drewN | apply Kd.R_drew)); exact (Kd.R_mono (Kd.R_far (p := ⟨gb207, 1, none⟩) (Kd.R_far (p := ⟨gb207, 0, none⟩) (Kd.R_mono HO_7.out (fun k_ hk => (⟨hk, hk.2⟩ : _ ∧ k_ ≠ gb207))) (fun _ hk => hk.2) (.int .i64 ((rd_T41 t203 x9_1).f0))) (fun _ hk => hk.2) (.int .i64 ((rd_T41 t203 x9_1).f1))) (fun _ h_ => h_.1)))) k_ hk_.2.1), (Kd.freshB (g := gb207) (o := .cells #[.int .i64 ((rd_T41 t203 x9_1).f0), .int .i64 ((rd_T41 t203 x9_1).f1)] 41 (0, 0)) (by (with_reducible repeat (first | refine blk_drewN ?_ _ | refine blk_drew ?_ | refine blk_alloc ?_ _)); refine blk_put (cs := #[.int .i64 ((rd_T41 t203 x9_1).f0), .int .i64 0]) ?_ 1 _ rfl; (with_reducible repeat (first | refine blk_drewN ?_ _ | refine blk_drew ?_ | refine blk_alloc ?_ _)); refine blk_put (cs := #[.int .i64 0, .int .i64 0]) ?_ 0 _ rfl; (with_reducible repeat (first | refine blk_drewN ?_ _ | refine blk_drew ?_ | refine blk_alloc ?_ _)); exact BK207.out) k_ hk_.2.1)⟩)) (below_size (by repeat (first | (with_reducible first | exact HB.out | apply below_alloc | apply pw_below_drewN | apply below_drew1 | refine below_set ?_ GE207.out) | exact HB.out)))); have n3_ := Aside0.mk (blk_below (g := gb207) (o := .cells #[.int .i64 ((rd_T41 t203 x9_1).f0), .int .i64 ((rd_T41 t203 x9_1).f1)] 41 (0, 0)) (by (with_reducible repeat (first | refine blk_drewN ?_ _ | refine blk_drew ?_ | refine blk_alloc ?_ _)); refine blk_put (cs := #[.int .i64 ((rd_T41 t203 x9_1).f0), .int .i64 0]) ?_ 1 _ rfl; (with_reducible repeat (first | refine blk_drewN ?_ _ | refine blk_drew ?_ | refine blk_alloc ?_ _)); refine blk_put (cs := #[.int .i64 0, .int .i64 0]) ?_ 0 _ rfl; (with_reducible repeat (first | refine blk_drewN ?_ _ | refine blk_drew ?_ | refine blk_alloc ?_ _)); exact BK207.out) hb); have n4_ := Aside0.mk (below_step (by repeat (first | (with_reducible first | exact HB.out | apply below_alloc | apply pw_below_drewN | apply below_drew1 | refine below_set ?_ GE207.out) | exact HB.out)) hb); clear HO_3; clear HO_7; clear BK207; clear HB; have HO_3 := n0_; have HO_7 := n1_; have HO210 := n2_; have BK207 := n3_; have HB := n4_; clear n0_ n1_ n2_ n3_ n4_; (try clear hb); (try clear hb2); (try clear hk); (try clear hi); (try clear ho0); obtain ⟨Ao14, co14, eo14⟩ := Kd.N_slice HO210.out; subst eo14) | ((with_reducible refine gate_builtin (b := .append) (xs := #[.tmp 13, .tmp 18]) rfl ?_); at_builtin; refine Kd.N_append_rows (Kd.slice 41 k41) (w0 := w) w.heap.size rfl (.tmp 13) (.tmp 18) 22 29 (.slice none 0 0) 24 rfl Try.underlying22 info29 rfl (by decide) (by omega) u3 x3_1 t208 _ _ _ (fun k_ => (w.heap.size ≤ k_) ∧ some k_ ≠ (.slice (some ad206) t203.length co4 : Value).ownBlock ∧ k_ ≠ gb207) (fun k_ => ((fun k_ => (w.heap.size ≤ k_) ∧ some k_ ≠ (.slice (some ad206) t203.length co4 : Value).ownBlock ∧ k_ ≠ gb207)) k_ ∧ some k_ ≠ (u3 : Value).ownBlock) rfl rfl ?aO ?aR (fun _ hk => hk) ?aF ?aB ?aS ?aL ?_; (case aR => exact (by skip; exact Kd.N_F (Kd.N_mono (ok' := (fun k_ => ((fun k_ => (w.heap.size ≤ k_) ∧ some k_ ≠ (.slice (some ad206) t203.length co4 : Value).ownBlock ∧ k_ ≠ gb207)) k_ ∧ some k_ ≠ (u3 : Value).ownBlock)) (HO210.out) (fun k_ hk => ⟨⟨hk.1, ⟨hk.2.2.1, hk.2.2.2⟩⟩, hk.2.1⟩)))); (case aB => exact (by repeat (first | (with_reducible first | exact HB.out | apply below_alloc | apply pw_below_drewN | apply below_drew1 | refine below_set ?_ GE207.out) | exact HB.out))); (case aF => exact (fun k_ hk => ⟨(Nat.le_trans (below_size (by repeat (first | (with_reducible first | exact HB.out | apply below_alloc | apply pw_below_drewN | apply below_drew1 | refine below_set ?_ GE207.out) | exact HB.out))) hk), Kd.fresh' (Kd.R_lt (by (with_reducible repeat (first | apply Kd.R_alloc | apply Kd.R_drewN | apply Kd.R_drew)); exact HO_7.out)) k_ hk, Kd.freshB (g := gb207) (o := .cells #[.int .i64 ((rd_T41 t203 x9_1).f0), .int .i64 ((rd_T41 t203 x9_1).f1)] 41 (0, 0)) (by (with_reducible repeat (first | refine blk_drewN ?_ _ | refine blk_drew ?_ | refine blk_alloc ?_ _)); exact BK207.out) k_ hk⟩)); (case aO => exact (by (with_reducible repeat (first | apply Kd.N_alloc | apply Kd.N_drewN | apply Kd.N_drew)); exact Kd.N_mono HO_3.out (fun _ hk => ⟨hk.1.1.1, ⟨hk.1.1.2, hk.1.2⟩⟩))); (case aS => exact (below_size (by repeat (first | (with_reducible first | exact HB.out | apply below_alloc | apply pw_below_drewN | apply below_drew1 | refine below_set ?_ GE207.out) | exact HB.out)))); (case aL => have := LMc9.out; omega); intro v212 w13 ho hb hg hat; rw [← Ny211.out] at ho; have n0_ := Aside0.mk (Kd.R_over' (by (with_reducible repeat (first | apply Kd.R_alloc | apply Kd.R_drewN | apply Kd.R_drew)); exact HO_7.out) (Kd.N_typed (by (with_reducible repeat (first | apply Kd.N_alloc | apply Kd.N_drewN | apply Kd.N_drew)); exact HO_3.out)) (by decide) hg); have n1_ := Aside0.mk (blk_grown (g := gb207) (o := .cells #[.int .i64 ((rd_T41 t203 x9_1).f0), .int .i64 ((rd_T41 t203 x9_1).f1)] 41 (0, 0)) (by (with_reducible repeat (first | refine blk_drewN ?_ _ | refine blk_drew ?_ | refine blk_alloc ?_ _)); exact BK207.out) hg (Kd.N_ne HO_3.out BK207.out (by decide))); have n2_ := Aside0.mk (Kd.N_afterv (ok := (fun k_ => (w.heap.size ≤ k_) ∧ some k_ ≠ (.slice (some ad206) t203.length co4 : Value).ownBlock ∧ k_ ≠ gb207)) (by (with_reducible repeat (first | apply Kd.N_alloc | apply Kd.N_drewN | apply Kd.N_drew)); exact Kd.N_mono HO210.out (fun _ hk => ⟨⟨hk.1, ⟨hk.2.2.1, hk.2.2.2⟩⟩, hk.2.1⟩)) hg hat); have n3_ := Aside0.mk (hb); have n4_ := Aside0.mk (ho); clear HO_7; clear BK207; clear HO210; clear HB; clear HO_3; have HO_7 := n0_; have BK207 := n1_; have HO210 := n2_; have HB := n3_; have HO213 := n4_; clear n0_ n1_ n2_ n3_ n4_; clear ho hb hg hat))
              go_roundg k1
              case measure => have := HK1.out; omega
              case rel => exact ⟨(y211), (wrap64 (x9_1 + 1)), (by first | rfl | (simp; done) | (simp [*]; done)), H', ⟨by have := HK1.out; omega⟩, ⟨by (with_reducible repeat (first | apply Kd.N_alloc | apply Kd.N_drewN | apply Kd.N_drew)); exact Kd.N_mono HO213.out (fun _ hk => ⟨hk.1, hk.2.1⟩)⟩, ⟨by (with_reducible repeat (first | apply Kd.R_alloc | apply Kd.R_drewN | apply Kd.R_drew)); exact Kd.R_mono HO_7.out (fun _ hk => hk.1)⟩, ⟨by repeat (first | (with_reducible first | exact HB.out | apply below_alloc | apply pw_below_drewN | apply below_drew1 | refine below_set ?_ GE207.out) | exact HB.out)⟩⟩
            · rw [if_neg c9] at H
              exact absurd H (by simp)
          · rw [if_neg c7] at H
            exact absurd H (by simp)
        · rw [if_neg c6] at H
          exact absurd H (by simp)
      · rw [if_neg c5] at H
        have c5b0 : decide (x9_1 < (t203.length : Int)) = false := decide_eq_false c5
        clear c5
        obtain rfl := Option.some.inj H
        go_wp2
        go_ret
        exact ⟨_, by first | rfl | (simp [errW_none, errW_some] <;> rfl) | (simp [*, errW_none, errW_some] <;> rfl), by (with_reducible repeat (first | apply Kd.N_alloc | apply Kd.N_drewN | apply Kd.N_drew)); exact Kd.N_mono HO_3.out (fun _ hk => hk.1), by repeat (first | (with_reducible first | exact HB.out | apply below_alloc | apply pw_below_drewN | apply below_drew1) | exact HB.out)⟩

/-! ### burinref02_edge: function 55 -/
mutual
def burinref02_edge.l0 : Nat → List (S41) → Int → Int → Int → Option (Int)
  | 0, _, _, _, _ => none
  | k + 1, x0, x1, x5, x6 => if x6 < (x0.length : Int) then (if 0 ≤ x6 then (if ((rd_T41 x0 x6).f0) > x1 then (burinref02_edge.j1 k x0 x1 x5 x6 (decide (((rd_T41 x0 x6).f0) < x5))) else (burinref02_edge.j1 k x0 x1 x5 x6 false)) else (none)) else (some x5)
def burinref02_edge.j1 : Nat → List (S41) → Int → Int → Int → Bool → Option (Int)
  | 0, _, _, _, _, _ => none
  | k + 1, x0, x1, x5, x6, x28 => if x28 = true then (if 0 ≤ x6 then (if x6 < (x0.length : Int) then (if ((rd_T41 x0 x6).f1) ≥ x1 then (if ((rd_T41 x0 x6).f1) < 1114111 then (if (wrap64 (((rd_T41 x0 x6).f1) + 1)) < ((rd_T41 x0 x6).f0) then (burinref02_edge.l0 k x0 x1 (wrap64 (((rd_T41 x0 x6).f1) + 1)) (wrap64 (x6 + 1))) else (burinref02_edge.l0 k x0 x1 ((rd_T41 x0 x6).f0) (wrap64 (x6 + 1)))) else (burinref02_edge.l0 k x0 x1 ((rd_T41 x0 x6).f0) (wrap64 (x6 + 1)))) else (burinref02_edge.l0 k x0 x1 ((rd_T41 x0 x6).f0) (wrap64 (x6 + 1)))) else (none)) else (none)) else (if 0 ≤ x6 then (if x6 < (x0.length : Int) then (if ((rd_T41 x0 x6).f1) ≥ x1 then (if ((rd_T41 x0 x6).f1) < 1114111 then (if (wrap64 (((rd_T41 x0 x6).f1) + 1)) < x5 then (burinref02_edge.l0 k x0 x1 (wrap64 (((rd_T41 x0 x6).f1) + 1)) (wrap64 (x6 + 1))) else (burinref02_edge.l0 k x0 x1 x5 (wrap64 (x6 + 1)))) else (burinref02_edge.l0 k x0 x1 x5 (wrap64 (x6 + 1)))) else (burinref02_edge.l0 k x0 x1 x5 (wrap64 (x6 + 1)))) else (none)) else (none))
end
def burinref02_edge.f (k : Nat) (l0 : List (S41)) (a1 : Int) : Option (Int) := burinref02_edge.l0 k l0 a1 1114112 0
theorem burinref02_edge.mono_l : ∀ k, (∀ y0 y1 y2 y3, LeO (burinref02_edge.l0 k y0 y1 y2 y3) (burinref02_edge.l0 (k + 1) y0 y1 y2 y3)) ∧ (∀ y0 y1 y2 y3 y4, LeO (burinref02_edge.j1 k y0 y1 y2 y3 y4) (burinref02_edge.j1 (k + 1) y0 y1 y2 y3 y4))
  | 0 => ⟨fun _ _ _ _ r h => by simp [burinref02_edge.l0] at h, fun _ _ _ _ _ r h => by simp [burinref02_edge.j1] at h⟩
  | k + 1 => by
    obtain ⟨ih0, ih1⟩ := burinref02_edge.mono_l k
    refine ⟨?_, ?_⟩
    · intro y0 y1 y2 y3
      unfold burinref02_edge.l0
      repeat' first
      | (with_reducible exact ih0 _ _ _ _)
      | (with_reducible exact ih1 _ _ _ _ _)
      | (with_reducible exact LeO.refl _)
      | (with_reducible exact LeO.none _)
      | (with_reducible refine LeO.ite ?_ ?_)
      | (with_reducible refine LeO.bind ?_ (fun _ => ?_))
      | exact ih0 _ _ _ _
      | exact ih1 _ _ _ _ _
      | exact LeO.none _
      | refine LeO.ite ?_ ?_
      | refine LeO.bind ?_ (fun _ => ?_)
    · intro y0 y1 y2 y3 y4
      unfold burinref02_edge.j1
      repeat' first
      | (with_reducible exact ih0 _ _ _ _)
      | (with_reducible exact ih1 _ _ _ _ _)
      | (with_reducible exact LeO.refl _)
      | (with_reducible exact LeO.none _)
      | (with_reducible refine LeO.ite ?_ ?_)
      | (with_reducible refine LeO.bind ?_ (fun _ => ?_))
      | exact ih0 _ _ _ _
      | exact ih1 _ _ _ _ _
      | exact LeO.none _
      | refine LeO.ite ?_ ?_
      | refine LeO.bind ?_ (fun _ => ?_)
theorem burinref02_edge.mono : ∀ a0 a1 k, LeO (burinref02_edge.f k a0 a1) (burinref02_edge.f (k + 1) a0 a1) := by
  intro a0 a1 k
  obtain ⟨ih0, ih1⟩ := burinref02_edge.mono_l k
  unfold burinref02_edge.f
  repeat' first
      | (with_reducible exact ih0 _ _ _ _)
      | (with_reducible exact ih1 _ _ _ _ _)
      | (with_reducible exact LeO.refl _)
      | (with_reducible exact LeO.none _)
      | (with_reducible refine LeO.ite ?_ ?_)
      | (with_reducible refine LeO.bind ?_ (fun _ => ?_))
      | exact ih0 _ _ _ _
      | exact ih1 _ _ _ _ _
      | exact LeO.none _
      | refine LeO.ite ?_ ?_
      | refine LeO.bind ?_ (fun _ => ?_)
set_option maxHeartbeats 8000000 in
set_option maxRecDepth 100000 in
theorem burinref02_edge.calls (k : Nat) (A0 : Option Addr) (c0 : Nat) (l0 : List (S41)) (a1 : Int) (r : Int) (w : World) (hr0 : Kd.C k41 w A0 l0.length l0) (hc0 : l0.length ≤ c0) (h : burinref02_edge.f k l0 a1 = some r) :
    Calls Try.prog 55 #[.slice A0 l0.length c0, .int .i64 a1] w fun e w' => e = .returned (.int .i64 r) ∧ Drawn0 w w' := by
  have HR0 := Aside0.mk hr0
  have HC0 := Aside0.mk hc0
  clear hr0 hc0
  have H : (burinref02_edge.l0 k l0 a1 1114112 0) = some r := h
  clear h
  have H' := Aside0.mk H
  clear H
  go_enter Try.func55, Try.ntmps55
  go_wp2
  go_loopg [5, 6] k (fun kq v5 v6 w' => ∃ (x5_1 : Int) (x6_1 : Int), v5 = .int .i64 x5_1 ∧ v6 = .int .i64 x6_1 ∧ Aside0 (burinref02_edge.l0 kq l0 a1 x5_1 x6_1 = some r) ∧ Aside0 (kq ≤ k) ∧ Drawn0 w w')
  case atStart => exact ⟨(1114112), (0), (by first | rfl | (simp; done) | (simp [*]; done)), (by first | rfl | (simp; done) | (simp [*]; done)), H', ⟨Nat.le_refl _⟩, by repeat (first | exact Drawn0.refl _ | apply Drawn0.step)⟩
  case round =>
    clear H'
    try clear p2
    obtain ⟨x5_1, x6_1, rfl, rfl, HA, HK1, ⟨m1, rfl⟩⟩ := hrel
    cases gk with
    | zero => exact absurd HA.out (by simp [burinref02_edge.l0])
    | succ k1 =>
      have H := HA.out
      clear HA
      simp only [burinref02_edge.l0] at H
      by_cases c3 : x6_1 < (l0.length : Int)
      · rw [if_pos c3] at H
        have c3b0 : decide (x6_1 < (l0.length : Int)) = true := decide_eq_true c3
        clear c3
        have HC4 := Aside0.mk H
        clear H
        go_upto_region 5 with (fail)
        go_cut [28] (fun v28 wc => ∃ (kq : Nat) (x28_3 : Bool), v28 = .bool x28_3 ∧ Aside0 (burinref02_edge.j1 kq l0 a1 x5_1 x6_1 x28_3 = some r) ∧ Aside0 (kq ≤ k1) ∧ Drawn0 w wc)
        case first =>
          have H := HC4.out
          clear HC4
          by_cases c5 : 0 ≤ x6_1
          · rw [if_pos c5] at H
            have c5b0 : decide (0 ≤ x6_1) = true := decide_eq_true c5
            clear c5
            (first | rw [c5b0] | (simp only [i64_w, i32_w]; rw [c5b0]) | skip)
            by_cases c6 : ((rd_T41 l0 x6_1).f0) > a1
            · rw [if_pos c6] at H
              have c6b0 : decide (a1 < ((rd_T41 l0 x6_1).f0)) = true := decide_eq_true c6
              clear c6
              have H' := Aside0.mk H
              clear H
              have p214 : 0 ≤ (x6_1 : Int) := of_decide_eq_true (by first | (with_reducible assumption) | assumption)
              have q214 : x6_1 < (l0.length : Int) := of_decide_eq_true (by first | (with_reducible assumption) | assumption)
              obtain ⟨ad214, e214, hx214_0, hx214_1⟩ := at_T41 HR0.out x6_1 p214 q214
              cases e214
              replace p214 := eq_true p214
              replace q214 := eq_true q214
              have p215 : 0 ≤ (x6_1 : Int) := of_decide_eq_true (by first | (with_reducible assumption) | assumption)
              have q215 : x6_1 < (l0.length : Int) := of_decide_eq_true (by first | (with_reducible assumption) | assumption)
              obtain ⟨ad215, e215, hx215_0, hx215_1⟩ := at_T41 HR0.out x6_1 p215 q215
              obtain rfl : ad214 = ad215 := (by injection e215)
              replace p215 := eq_true p215
              replace q215 := eq_true q215
              go_wp2
              go_meet
              case rel => exact ⟨_, (decide (((rd_T41 l0 x6_1).f0) < x5_1)), (by first | rfl | (simp; done) | (simp [*]; done)), H', ⟨by have := HK1.out; first | omega | exact Nat.le_refl _⟩, by repeat (first | exact Drawn0.refl _ | apply Drawn0.step)⟩
            · rw [if_neg c6] at H
              have c6b0 : decide (a1 < ((rd_T41 l0 x6_1).f0)) = false := decide_eq_false c6
              clear c6
              have H' := Aside0.mk H
              clear H
              have p214 : 0 ≤ (x6_1 : Int) := of_decide_eq_true (by first | (with_reducible assumption) | assumption)
              have q214 : x6_1 < (l0.length : Int) := of_decide_eq_true (by first | (with_reducible assumption) | assumption)
              obtain ⟨ad214, e214, hx214_0, hx214_1⟩ := at_T41 HR0.out x6_1 p214 q214
              cases e214
              replace p214 := eq_true p214
              replace q214 := eq_true q214
              go_wp2
              go_meet
              case rel => exact ⟨_, (false), (by first | rfl | (simp; done) | (simp [*]; done)), H', ⟨by have := HK1.out; first | omega | exact Nat.le_refl _⟩, by repeat (first | exact Drawn0.refl _ | apply Drawn0.step)⟩
          · rw [if_neg c5] at H
            exact absurd H (by simp)
        case rest =>
          clear HC4
          try clear p2
          try clear q2
          try clear hx2
          try clear c3
          try clear c3b0
          try clear c5
          try clear c5b0
          try clear c6
          try clear c6b0
          try clear hx214_0
          try clear hx214_1
          try clear hx215_0
          try clear hx215_1
          try clear p2
          try clear p214
          try clear p215
          try clear q214
          try clear q215
          obtain ⟨kq, x28_3, rfl, HA, HJ3, ⟨mc3, rfl⟩⟩ := hcut
          cases kq with
          | zero => exact absurd HA.out (by simp [burinref02_edge.j1])
          | succ kj3 =>
            have H := HA.out
            clear HA
            simp only [burinref02_edge.j1] at H
            by_cases c7 : x28_3 = true
            · subst c7
              have H1 : (if 0 ≤ x6_1 then (if x6_1 < (l0.length : Int) then (if ((rd_T41 l0 x6_1).f1) ≥ a1 then (if ((rd_T41 l0 x6_1).f1) < 1114111 then (if (wrap64 (((rd_T41 l0 x6_1).f1) + 1)) < ((rd_T41 l0 x6_1).f0) then (burinref02_edge.l0 kj3 l0 a1 (wrap64 (((rd_T41 l0 x6_1).f1) + 1)) (wrap64 (x6_1 + 1))) else (burinref02_edge.l0 kj3 l0 a1 ((rd_T41 l0 x6_1).f0) (wrap64 (x6_1 + 1)))) else (burinref02_edge.l0 kj3 l0 a1 ((rd_T41 l0 x6_1).f0) (wrap64 (x6_1 + 1)))) else (burinref02_edge.l0 kj3 l0 a1 ((rd_T41 l0 x6_1).f0) (wrap64 (x6_1 + 1)))) else (none)) else (none)) = some r := by rw [if_pos rfl] at H; exact H
              clear H
              have H := H1
              clear H1
              by_cases c8 : 0 ≤ x6_1
              · rw [if_pos c8] at H
                have c8b0 : decide (0 ≤ x6_1) = true := decide_eq_true c8
                clear c8
                by_cases c9 : x6_1 < (l0.length : Int)
                · rw [if_pos c9] at H
                  have c9b0 : decide (x6_1 < (l0.length : Int)) = true := decide_eq_true c9
                  clear c9
                  by_cases c10 : ((rd_T41 l0 x6_1).f1) ≥ a1
                  · rw [if_pos c10] at H
                    have c10b0 : decide (a1 ≤ ((rd_T41 l0 x6_1).f1)) = true := decide_eq_true c10
                    clear c10
                    by_cases c11 : ((rd_T41 l0 x6_1).f1) < 1114111
                    · rw [if_pos c11] at H
                      have c11b0 : decide (((rd_T41 l0 x6_1).f1) < 1114111) = true := decide_eq_true c11
                      clear c11
                      by_cases c12 : (wrap64 (((rd_T41 l0 x6_1).f1) + 1)) < ((rd_T41 l0 x6_1).f0)
                      · rw [if_pos c12] at H
                        have c12b0 : decide ((wrap64 (((rd_T41 l0 x6_1).f1) + 1)) < ((rd_T41 l0 x6_1).f0)) = true := decide_eq_true c12
                        clear c12
                        have H' := Aside0.mk H
                        clear H
                        have p216 : 0 ≤ (x6_1 : Int) := of_decide_eq_true (by first | (with_reducible assumption) | assumption)
                        have q216 : x6_1 < (l0.length : Int) := of_decide_eq_true (by first | (with_reducible assumption) | assumption)
                        obtain ⟨ad216, e216, hx216_0, hx216_1⟩ := at_T41 HR0.out x6_1 p216 q216
                        cases e216
                        replace p216 := eq_true p216
                        replace q216 := eq_true q216
                        have p217 : 0 ≤ (x6_1 : Int) := of_decide_eq_true (by first | (with_reducible assumption) | assumption)
                        have q217 : x6_1 < (l0.length : Int) := of_decide_eq_true (by first | (with_reducible assumption) | assumption)
                        obtain ⟨ad217, e217, hx217_0, hx217_1⟩ := at_T41 HR0.out x6_1 p217 q217
                        obtain rfl : ad216 = ad217 := (by injection e217)
                        replace p217 := eq_true p217
                        replace q217 := eq_true q217
                        have p218 : 0 ≤ (x6_1 : Int) := of_decide_eq_true (by first | (with_reducible assumption) | assumption)
                        have q218 : x6_1 < (l0.length : Int) := of_decide_eq_true (by first | (with_reducible assumption) | assumption)
                        obtain ⟨ad218, e218, hx218_0, hx218_1⟩ := at_T41 HR0.out x6_1 p218 q218
                        obtain rfl : ad216 = ad218 := (by injection e218)
                        replace p218 := eq_true p218
                        replace q218 := eq_true q218
                        have p219 : 0 ≤ (x6_1 : Int) := of_decide_eq_true (by first | (with_reducible assumption) | assumption)
                        have q219 : x6_1 < (l0.length : Int) := of_decide_eq_true (by first | (with_reducible assumption) | assumption)
                        obtain ⟨ad219, e219, hx219_0, hx219_1⟩ := at_T41 HR0.out x6_1 p219 q219
                        obtain rfl : ad216 = ad219 := (by injection e219)
                        replace p219 := eq_true p219
                        replace q219 := eq_true q219
                        have p220 : 0 ≤ (x6_1 : Int) := of_decide_eq_true (by first | (with_reducible assumption) | assumption)
                        have q220 : x6_1 < (l0.length : Int) := of_decide_eq_true (by first | (with_reducible assumption) | assumption)
                        obtain ⟨ad220, e220, hx220_0, hx220_1⟩ := at_T41 HR0.out x6_1 p220 q220
                        obtain rfl : ad216 = ad220 := (by injection e220)
                        replace p220 := eq_true p220
                        replace q220 := eq_true q220
                        go_wp2
                        go_roundg kj3
                        case measure => have := HK1.out; have := HJ3.out; omega
                        case rel => exact ⟨(wrap64 (((rd_T41 l0 x6_1).f1) + 1)), (wrap64 (x6_1 + 1)), (by first | rfl | (simp; done) | (simp [*]; done)), (by first | rfl | (simp; done) | (simp [*]; done)), H', ⟨by have := HK1.out; have := HJ3.out; omega⟩, by repeat (first | exact Drawn0.refl _ | apply Drawn0.step)⟩
                      · rw [if_neg c12] at H
                        have c12b0 : decide ((wrap64 (((rd_T41 l0 x6_1).f1) + 1)) < ((rd_T41 l0 x6_1).f0)) = false := decide_eq_false c12
                        clear c12
                        have H' := Aside0.mk H
                        clear H
                        have p216 : 0 ≤ (x6_1 : Int) := of_decide_eq_true (by first | (with_reducible assumption) | assumption)
                        have q216 : x6_1 < (l0.length : Int) := of_decide_eq_true (by first | (with_reducible assumption) | assumption)
                        obtain ⟨ad216, e216, hx216_0, hx216_1⟩ := at_T41 HR0.out x6_1 p216 q216
                        cases e216
                        replace p216 := eq_true p216
                        replace q216 := eq_true q216
                        have p217 : 0 ≤ (x6_1 : Int) := of_decide_eq_true (by first | (with_reducible assumption) | assumption)
                        have q217 : x6_1 < (l0.length : Int) := of_decide_eq_true (by first | (with_reducible assumption) | assumption)
                        obtain ⟨ad217, e217, hx217_0, hx217_1⟩ := at_T41 HR0.out x6_1 p217 q217
                        obtain rfl : ad216 = ad217 := (by injection e217)
                        replace p217 := eq_true p217
                        replace q217 := eq_true q217
                        have p218 : 0 ≤ (x6_1 : Int) := of_decide_eq_true (by first | (with_reducible assumption) | assumption)
                        have q218 : x6_1 < (l0.length : Int) := of_decide_eq_true (by first | (with_reducible assumption) | assumption)
                        obtain ⟨ad218, e218, hx218_0, hx218_1⟩ := at_T41 HR0.out x6_1 p218 q218
                        obtain rfl : ad216 = ad218 := (by injection e218)
                        replace p218 := eq_true p218
                        replace q218 := eq_true q218
                        have p219 : 0 ≤ (x6_1 : Int) := of_decide_eq_true (by first | (with_reducible assumption) | assumption)
                        have q219 : x6_1 < (l0.length : Int) := of_decide_eq_true (by first | (with_reducible assumption) | assumption)
                        obtain ⟨ad219, e219, hx219_0, hx219_1⟩ := at_T41 HR0.out x6_1 p219 q219
                        obtain rfl : ad216 = ad219 := (by injection e219)
                        replace p219 := eq_true p219
                        replace q219 := eq_true q219
                        go_wp2
                        go_roundg kj3
                        case measure => have := HK1.out; have := HJ3.out; omega
                        case rel => exact ⟨((rd_T41 l0 x6_1).f0), (wrap64 (x6_1 + 1)), (by first | rfl | (simp; done) | (simp [*]; done)), (by first | rfl | (simp; done) | (simp [*]; done)), H', ⟨by have := HK1.out; have := HJ3.out; omega⟩, by repeat (first | exact Drawn0.refl _ | apply Drawn0.step)⟩
                    · rw [if_neg c11] at H
                      have c11b0 : decide (((rd_T41 l0 x6_1).f1) < 1114111) = false := decide_eq_false c11
                      clear c11
                      have H' := Aside0.mk H
                      clear H
                      have p216 : 0 ≤ (x6_1 : Int) := of_decide_eq_true (by first | (with_reducible assumption) | assumption)
                      have q216 : x6_1 < (l0.length : Int) := of_decide_eq_true (by first | (with_reducible assumption) | assumption)
                      obtain ⟨ad216, e216, hx216_0, hx216_1⟩ := at_T41 HR0.out x6_1 p216 q216
                      cases e216
                      replace p216 := eq_true p216
                      replace q216 := eq_true q216
                      have p217 : 0 ≤ (x6_1 : Int) := of_decide_eq_true (by first | (with_reducible assumption) | assumption)
                      have q217 : x6_1 < (l0.length : Int) := of_decide_eq_true (by first | (with_reducible assumption) | assumption)
                      obtain ⟨ad217, e217, hx217_0, hx217_1⟩ := at_T41 HR0.out x6_1 p217 q217
                      obtain rfl : ad216 = ad217 := (by injection e217)
                      replace p217 := eq_true p217
                      replace q217 := eq_true q217
                      have p218 : 0 ≤ (x6_1 : Int) := of_decide_eq_true (by first | (with_reducible assumption) | assumption)
                      have q218 : x6_1 < (l0.length : Int) := of_decide_eq_true (by first | (with_reducible assumption) | assumption)
                      obtain ⟨ad218, e218, hx218_0, hx218_1⟩ := at_T41 HR0.out x6_1 p218 q218
                      obtain rfl : ad216 = ad218 := (by injection e218)
                      replace p218 := eq_true p218
                      replace q218 := eq_true q218
                      go_wp2
                      go_roundg kj3
                      case measure => have := HK1.out; have := HJ3.out; omega
                      case rel => exact ⟨((rd_T41 l0 x6_1).f0), (wrap64 (x6_1 + 1)), (by first | rfl | (simp; done) | (simp [*]; done)), (by first | rfl | (simp; done) | (simp [*]; done)), H', ⟨by have := HK1.out; have := HJ3.out; omega⟩, by repeat (first | exact Drawn0.refl _ | apply Drawn0.step)⟩
                  · rw [if_neg c10] at H
                    have c10b0 : decide (a1 ≤ ((rd_T41 l0 x6_1).f1)) = false := decide_eq_false c10
                    clear c10
                    have H' := Aside0.mk H
                    clear H
                    have p216 : 0 ≤ (x6_1 : Int) := of_decide_eq_true (by first | (with_reducible assumption) | assumption)
                    have q216 : x6_1 < (l0.length : Int) := of_decide_eq_true (by first | (with_reducible assumption) | assumption)
                    obtain ⟨ad216, e216, hx216_0, hx216_1⟩ := at_T41 HR0.out x6_1 p216 q216
                    cases e216
                    replace p216 := eq_true p216
                    replace q216 := eq_true q216
                    have p217 : 0 ≤ (x6_1 : Int) := of_decide_eq_true (by first | (with_reducible assumption) | assumption)
                    have q217 : x6_1 < (l0.length : Int) := of_decide_eq_true (by first | (with_reducible assumption) | assumption)
                    obtain ⟨ad217, e217, hx217_0, hx217_1⟩ := at_T41 HR0.out x6_1 p217 q217
                    obtain rfl : ad216 = ad217 := (by injection e217)
                    replace p217 := eq_true p217
                    replace q217 := eq_true q217
                    go_wp2
                    go_roundg kj3
                    case measure => have := HK1.out; have := HJ3.out; omega
                    case rel => exact ⟨((rd_T41 l0 x6_1).f0), (wrap64 (x6_1 + 1)), (by first | rfl | (simp; done) | (simp [*]; done)), (by first | rfl | (simp; done) | (simp [*]; done)), H', ⟨by have := HK1.out; have := HJ3.out; omega⟩, by repeat (first | exact Drawn0.refl _ | apply Drawn0.step)⟩
                · rw [if_neg c9] at H
                  exact absurd H (by simp)
              · rw [if_neg c8] at H
                exact absurd H (by simp)
            · replace c7 := Bool.eq_false_iff.mpr c7
              subst c7
              have H1 : (if 0 ≤ x6_1 then (if x6_1 < (l0.length : Int) then (if ((rd_T41 l0 x6_1).f1) ≥ a1 then (if ((rd_T41 l0 x6_1).f1) < 1114111 then (if (wrap64 (((rd_T41 l0 x6_1).f1) + 1)) < x5_1 then (burinref02_edge.l0 kj3 l0 a1 (wrap64 (((rd_T41 l0 x6_1).f1) + 1)) (wrap64 (x6_1 + 1))) else (burinref02_edge.l0 kj3 l0 a1 x5_1 (wrap64 (x6_1 + 1)))) else (burinref02_edge.l0 kj3 l0 a1 x5_1 (wrap64 (x6_1 + 1)))) else (burinref02_edge.l0 kj3 l0 a1 x5_1 (wrap64 (x6_1 + 1)))) else (none)) else (none)) = some r := by rw [if_neg (show ¬ (false = true) by decide)] at H; exact H
              clear H
              have H := H1
              clear H1
              by_cases c13 : 0 ≤ x6_1
              · rw [if_pos c13] at H
                have c13b0 : decide (0 ≤ x6_1) = true := decide_eq_true c13
                clear c13
                by_cases c14 : x6_1 < (l0.length : Int)
                · rw [if_pos c14] at H
                  have c14b0 : decide (x6_1 < (l0.length : Int)) = true := decide_eq_true c14
                  clear c14
                  by_cases c15 : ((rd_T41 l0 x6_1).f1) ≥ a1
                  · rw [if_pos c15] at H
                    have c15b0 : decide (a1 ≤ ((rd_T41 l0 x6_1).f1)) = true := decide_eq_true c15
                    clear c15
                    by_cases c16 : ((rd_T41 l0 x6_1).f1) < 1114111
                    · rw [if_pos c16] at H
                      have c16b0 : decide (((rd_T41 l0 x6_1).f1) < 1114111) = true := decide_eq_true c16
                      clear c16
                      by_cases c17 : (wrap64 (((rd_T41 l0 x6_1).f1) + 1)) < x5_1
                      · rw [if_pos c17] at H
                        have c17b0 : decide ((wrap64 (((rd_T41 l0 x6_1).f1) + 1)) < x5_1) = true := decide_eq_true c17
                        clear c17
                        have H' := Aside0.mk H
                        clear H
                        have p221 : 0 ≤ (x6_1 : Int) := of_decide_eq_true (by first | (with_reducible assumption) | assumption)
                        have q221 : x6_1 < (l0.length : Int) := of_decide_eq_true (by first | (with_reducible assumption) | assumption)
                        obtain ⟨ad221, e221, hx221_0, hx221_1⟩ := at_T41 HR0.out x6_1 p221 q221
                        cases e221
                        replace p221 := eq_true p221
                        replace q221 := eq_true q221
                        have p222 : 0 ≤ (x6_1 : Int) := of_decide_eq_true (by first | (with_reducible assumption) | assumption)
                        have q222 : x6_1 < (l0.length : Int) := of_decide_eq_true (by first | (with_reducible assumption) | assumption)
                        obtain ⟨ad222, e222, hx222_0, hx222_1⟩ := at_T41 HR0.out x6_1 p222 q222
                        obtain rfl : ad221 = ad222 := (by injection e222)
                        replace p222 := eq_true p222
                        replace q222 := eq_true q222
                        have p223 : 0 ≤ (x6_1 : Int) := of_decide_eq_true (by first | (with_reducible assumption) | assumption)
                        have q223 : x6_1 < (l0.length : Int) := of_decide_eq_true (by first | (with_reducible assumption) | assumption)
                        obtain ⟨ad223, e223, hx223_0, hx223_1⟩ := at_T41 HR0.out x6_1 p223 q223
                        obtain rfl : ad221 = ad223 := (by injection e223)
                        replace p223 := eq_true p223
                        replace q223 := eq_true q223
                        have p224 : 0 ≤ (x6_1 : Int) := of_decide_eq_true (by first | (with_reducible assumption) | assumption)
                        have q224 : x6_1 < (l0.length : Int) := of_decide_eq_true (by first | (with_reducible assumption) | assumption)
                        obtain ⟨ad224, e224, hx224_0, hx224_1⟩ := at_T41 HR0.out x6_1 p224 q224
                        obtain rfl : ad221 = ad224 := (by injection e224)
                        replace p224 := eq_true p224
                        replace q224 := eq_true q224
                        go_wp2
                        go_roundg kj3
                        case measure => have := HK1.out; have := HJ3.out; omega
                        case rel => exact ⟨(wrap64 (((rd_T41 l0 x6_1).f1) + 1)), (wrap64 (x6_1 + 1)), (by first | rfl | (simp; done) | (simp [*]; done)), (by first | rfl | (simp; done) | (simp [*]; done)), H', ⟨by have := HK1.out; have := HJ3.out; omega⟩, by repeat (first | exact Drawn0.refl _ | apply Drawn0.step)⟩
                      · rw [if_neg c17] at H
                        have c17b0 : decide ((wrap64 (((rd_T41 l0 x6_1).f1) + 1)) < x5_1) = false := decide_eq_false c17
                        clear c17
                        have H' := Aside0.mk H
                        clear H
                        have p221 : 0 ≤ (x6_1 : Int) := of_decide_eq_true (by first | (with_reducible assumption) | assumption)
                        have q221 : x6_1 < (l0.length : Int) := of_decide_eq_true (by first | (with_reducible assumption) | assumption)
                        obtain ⟨ad221, e221, hx221_0, hx221_1⟩ := at_T41 HR0.out x6_1 p221 q221
                        cases e221
                        replace p221 := eq_true p221
                        replace q221 := eq_true q221
                        have p222 : 0 ≤ (x6_1 : Int) := of_decide_eq_true (by first | (with_reducible assumption) | assumption)
                        have q222 : x6_1 < (l0.length : Int) := of_decide_eq_true (by first | (with_reducible assumption) | assumption)
                        obtain ⟨ad222, e222, hx222_0, hx222_1⟩ := at_T41 HR0.out x6_1 p222 q222
                        obtain rfl : ad221 = ad222 := (by injection e222)
                        replace p222 := eq_true p222
                        replace q222 := eq_true q222
                        have p223 : 0 ≤ (x6_1 : Int) := of_decide_eq_true (by first | (with_reducible assumption) | assumption)
                        have q223 : x6_1 < (l0.length : Int) := of_decide_eq_true (by first | (with_reducible assumption) | assumption)
                        obtain ⟨ad223, e223, hx223_0, hx223_1⟩ := at_T41 HR0.out x6_1 p223 q223
                        obtain rfl : ad221 = ad223 := (by injection e223)
                        replace p223 := eq_true p223
                        replace q223 := eq_true q223
                        go_wp2
                        go_roundg kj3
                        case measure => have := HK1.out; have := HJ3.out; omega
                        case rel => exact ⟨(x5_1), (wrap64 (x6_1 + 1)), (by first | rfl | (simp; done) | (simp [*]; done)), (by first | rfl | (simp; done) | (simp [*]; done)), H', ⟨by have := HK1.out; have := HJ3.out; omega⟩, by repeat (first | exact Drawn0.refl _ | apply Drawn0.step)⟩
                    · rw [if_neg c16] at H
                      have c16b0 : decide (((rd_T41 l0 x6_1).f1) < 1114111) = false := decide_eq_false c16
                      clear c16
                      have H' := Aside0.mk H
                      clear H
                      have p221 : 0 ≤ (x6_1 : Int) := of_decide_eq_true (by first | (with_reducible assumption) | assumption)
                      have q221 : x6_1 < (l0.length : Int) := of_decide_eq_true (by first | (with_reducible assumption) | assumption)
                      obtain ⟨ad221, e221, hx221_0, hx221_1⟩ := at_T41 HR0.out x6_1 p221 q221
                      cases e221
                      replace p221 := eq_true p221
                      replace q221 := eq_true q221
                      have p222 : 0 ≤ (x6_1 : Int) := of_decide_eq_true (by first | (with_reducible assumption) | assumption)
                      have q222 : x6_1 < (l0.length : Int) := of_decide_eq_true (by first | (with_reducible assumption) | assumption)
                      obtain ⟨ad222, e222, hx222_0, hx222_1⟩ := at_T41 HR0.out x6_1 p222 q222
                      obtain rfl : ad221 = ad222 := (by injection e222)
                      replace p222 := eq_true p222
                      replace q222 := eq_true q222
                      go_wp2
                      go_roundg kj3
                      case measure => have := HK1.out; have := HJ3.out; omega
                      case rel => exact ⟨(x5_1), (wrap64 (x6_1 + 1)), (by first | rfl | (simp; done) | (simp [*]; done)), (by first | rfl | (simp; done) | (simp [*]; done)), H', ⟨by have := HK1.out; have := HJ3.out; omega⟩, by repeat (first | exact Drawn0.refl _ | apply Drawn0.step)⟩
                  · rw [if_neg c15] at H
                    have c15b0 : decide (a1 ≤ ((rd_T41 l0 x6_1).f1)) = false := decide_eq_false c15
                    clear c15
                    have H' := Aside0.mk H
                    clear H
                    have p221 : 0 ≤ (x6_1 : Int) := of_decide_eq_true (by first | (with_reducible assumption) | assumption)
                    have q221 : x6_1 < (l0.length : Int) := of_decide_eq_true (by first | (with_reducible assumption) | assumption)
                    obtain ⟨ad221, e221, hx221_0, hx221_1⟩ := at_T41 HR0.out x6_1 p221 q221
                    cases e221
                    replace p221 := eq_true p221
                    replace q221 := eq_true q221
                    go_wp2
                    go_roundg kj3
                    case measure => have := HK1.out; have := HJ3.out; omega
                    case rel => exact ⟨(x5_1), (wrap64 (x6_1 + 1)), (by first | rfl | (simp; done) | (simp [*]; done)), (by first | rfl | (simp; done) | (simp [*]; done)), H', ⟨by have := HK1.out; have := HJ3.out; omega⟩, by repeat (first | exact Drawn0.refl _ | apply Drawn0.step)⟩
                · rw [if_neg c14] at H
                  exact absurd H (by simp)
              · rw [if_neg c13] at H
                exact absurd H (by simp)
      · rw [if_neg c3] at H
        have c3b0 : decide (x6_1 < (l0.length : Int)) = false := decide_eq_false c3
        clear c3
        obtain rfl := Option.some.inj H
        go_wp2
        go_ret
        exact ⟨by first | rfl | (simp; done) | (simp [*]; done), by repeat (first | exact Drawn0.refl _ | apply Drawn0.step)⟩

end Go.Proofs.Ytoihlfiacnljhaa.HBandsSplits
