-- Made by wip/hyb (a program of this session over the kit's print); its parts marked 'own text' are typed by hand.
import Derived.Test.YtheheijhijeljaaGreatDoorHBracketReadsx3
namespace Go.Proofs.YtheheijhijeljaaGreatDoor.HBracketReads
open Go.RowKit Go.Proofs.YtheheijhijeljaaGreatDoorW.PrintWords Go.Proofs.YtheheijhijeljaaGreatDoorW.PrintLast Go.Proofs.YtheheijhijeljaaGreatDoorW.PrintMore
attribute [local go_sem] max2_int min2_int max_two min_two max_three min_three max_four min_four   -- for this text's walks alone
set_option linter.unusedVariables false
set_option linter.unusedSimpArgs false
section
open Go.Proofs.YtheheijhijeljaaGreatDoorX
theorem wrap_rg {x : Int} (h0 : -9223372036854775808 ≤ x) (h1 : x ≤ 9223372036854775807) : wrap64 x = x := by
 unfold wrap64
 omega
theorem mx_rg (a b : Int) : mx a b = max a b := by unfold mx; split <;> omega
theorem mn_rg (a b : Int) : mn a b = min a b := by unfold mn; split <;> omega
theorem rd_rg (s : List (Int × Int)) (i : Nat) (h : i < s.length) : rd_T36 (s.map toRg) (i : Int) = toRg s[i] := by
 simp [rd_T36, h]
theorem norm_l1 (s : List (Int × Int)) (hs : ∀ x ∈ s, 0 ≤ x.1 ∧ x.1 ≤ x.2 ∧ x.2 ≤ 1114111) (hn : s.length ≤ 1000000) (d : Nat) : ∀ (i : Nat) (p : List (Int × Int)) (c : Int × Int), i ≤ s.length → s.length - i = d → p.length + d ≤ 1000000 → 0 ≤ c.2 → c.2 ≤ 1114111 →
  Ev (fun k => ranges_Norm.l1 k ((p ++ [c]).map toRg) (s.map toRg) (s.length : Int) i) ((p ++ go1 c (s.drop i)).map toRg) := by
 induction d with
 | zero =>
  intro i p c hi hd hp h0 h1
  have e : i = s.length := by omega
  subst e
  refine Ev.step (fun k => ?_) (Ev.now _)
  simp only [ranges_Norm.l1]
  rw [if_neg (by omega), List.drop_of_length_le (Nat.le_refl _)]
  rfl
 | succ d ih =>
  intro i p c hi hd hp h0 h1
  have hlt : i < s.length := by omega
  have hx := hs _ (List.getElem_mem hlt)
  have hlen : (((p ++ [c]).map toRg).length : Int) = p.length + 1 := by simp
  have hlast : rd_T36 ((p ++ [c]).map toRg) (p.length : Int) = toRg c := by
   rw [rd_rg (p ++ [c]) p.length (by simp)]; simp
  have hstep : ∀ k, ranges_Norm.l1 (k + 1) ((p ++ [c]).map toRg) (s.map toRg) (s.length : Int) i = if s[i].1 ≤ c.2 + 1 then ranges_Norm.l1 k ((p ++ [(c.1, max c.2 s[i].2)]).map toRg) (s.map toRg) (s.length : Int) ((i + 1 : Nat) : Int) else ranges_Norm.l1 k (((p ++ [c]) ++ [s[i]]).map toRg) (s.map toRg) (s.length : Int) ((i + 1 : Nat) : Int) := by
   intro k
   simp only [ranges_Norm.l1]
   rw [if_pos (by omega), if_pos (by omega), if_pos (by simp; omega), hlen, if_pos (by omega), wrap_rg (x := (p.length : Int) + 1 - 1) (by omega) (by omega), show (p.length : Int) + 1 - 1 = p.length by omega, if_pos (by omega), if_pos (by omega), hlast, rd_rg s i hlt]
   rw [show (toRg c).f1 = c.2 from rfl, show (toRg c).f0 = c.1 from rfl, show (toRg s[i]).f0 = s[i].1 from rfl, show (toRg s[i]).f1 = s[i].2 from rfl, wrap_rg (x := c.2 + 1) (by omega) (by omega), wrap_rg (x := (i : Int) + 1) (by omega) (by omega), show (i : Int) + 1 = ((i + 1 : Nat) : Int) by omega, mx_rg]
   have hset : ((p ++ [c]).map toRg).set (p.length : Int).toNat (⟨c.1, max c.2 s[i].2⟩ : S36) = (p ++ [(c.1, max c.2 s[i].2)]).map toRg := by
    rw [Int.toNat_natCast, List.map_append, List.map_append, List.set_append_right _ _ (by simp)]
    simp [toRg]
   have happ : (p ++ [c]).map toRg ++ [(⟨s[i].1, s[i].2⟩ : S36)] = ((p ++ [c]) ++ [s[i]]).map toRg := by simp [toRg]
   rw [hset, if_pos (c := (List.map toRg (p ++ [c])).length < 8796093022208) (by simp; omega), happ]
  have hgo : go1 c (s.drop i) = if s[i].1 ≤ c.2 + 1 then go1 (c.1, max c.2 s[i].2) (s.drop (i + 1)) else c :: go1 s[i] (s.drop (i + 1)) := by
   rw [List.drop_eq_getElem_cons hlt]; rfl
  rw [hgo]
  by_cases h : s[i].1 ≤ c.2 + 1
  ·rw [if_pos h]
   exact Ev.step (fun k => by rw [hstep k, if_pos h]) (ih (i + 1) p (c.1, max c.2 s[i].2) (by omega) (by omega) (by omega) (by show 0 ≤ max c.2 s[i].2; omega) (by show max c.2 s[i].2 ≤ 1114111; omega))
  rw [if_neg h]
  have := ih (i + 1) (p ++ [c]) s[i] (by omega) (by omega) (by simp; omega) (by omega) (by omega)
  rw [show p ++ c :: go1 s[i] (s.drop (i + 1)) = (p ++ [c]) ++ go1 s[i] (s.drop (i + 1)) by simp]
  exact Ev.step (fun k => by rw [hstep k, if_neg h]) this
theorem norm_merge (s : List (Int × Int)) (hs : ∀ x ∈ s, 0 ≤ x.1 ∧ x.1 ≤ x.2 ∧ x.2 ≤ 1114111) (hn : s.length ≤ 900000) :
  Ev (fun k => ranges_Norm.l1 k ([] : List S36) (s.map toRg) (s.length : Int) 0) ((mergeL s).map toRg) := by
 cases s with
 | nil =>
  refine Ev.step (fun k => ?_) (Ev.now _)
  simp only [ranges_Norm.l1]
  rw [if_neg (by simp)]
  rfl
 | cons x t =>
  have hx := hs x (by simp)
  have h := norm_l1 (x :: t) hs (by omega) t.length 1 [] x (by simp) (by simp) (by simp at hn ⊢; omega) (by omega) (by omega)
  refine Ev.step (fun k => ?_) h
  simp only [ranges_Norm.l1]
  rw [if_pos (by first | omega | (simp; done) | (simp; omega)), if_pos (by omega), if_pos (by first | omega | (simp; done) | (simp; omega)), if_neg (by simp), if_pos (by simp), show ((0 : Int)) = ((0 : Nat) : Int) from rfl, rd_rg (x :: t) 0 (by simp), wrap_rg (x := ((0 : Nat) : Int) + 1) (by omega) (by omega)]
  rfl
theorem norm_l0 (l : List S36) (hn : l.length ≤ 900000) (d : Nat) : ∀ (i : Nat) (x3 : List (Int × Int)), i ≤ l.length → l.length - i = d → x3.length + d ≤ 900000 → (∀ x ∈ x3, 0 ≤ x.1 ∧ x.1 ≤ x.2 ∧ x.2 ≤ 1114111) →
  Ev (fun k => ranges_Norm.l0 k (x3.map toRg) l (l.length : Int) i) ((mergeL (sortLo (x3 ++ ((l.drop i).map ofRg).flatMap clip))).map toRg) := by
 induction d with
 | zero =>
  intro i x3 hi hd hx hr
  have e : i = l.length := by omega
  subst e
  rw [List.drop_of_length_le (Nat.le_refl _), List.map_nil, List.flatMap_nil, List.append_nil]
  have hp := sortLo_perm x3
  have hm := norm_merge (sortLo x3) (fun x hx => hr x (hp.mem_iff.1 hx)) (by rw [hp.length_eq]; omega)
  refine Ev.step (fun k => ?_) hm
  simp only [ranges_Norm.l0]
  rw [if_neg (by omega)]
  unfold ext_sortRange.f
  rw [if_pos (by simp; omega)]
  have e : (x3.map toRg).map ofRg = x3 := by rw [List.map_map]; exact List.map_id'' (fun x => ofRg_toRg x) x3
  rw [e, Option.bind_some, show ((x3.map toRg).length : Int) = ((sortLo x3).length : Int) by rw [hp.length_eq]; simp]
 | succ d ih =>
  intro i x3 hi hd hx hr
  have hlt : i < l.length := by omega
  have hrd : rd_T36 l (i : Int) = l[i] := by simp [rd_T36, hlt]
  rw [List.drop_eq_getElem_cons hlt, List.map_cons, List.flatMap_cons, ← List.append_assoc]
  have hclip : clip (ofRg l[i]) = if max l[i].f0 0 ≤ min l[i].f1 1114111 then [(max l[i].f0 0, min l[i].f1 1114111)] else [] := rfl
  have hlc : (clip (ofRg l[i])).length ≤ 1 := by rw [hclip]; split <;> simp
  have h := ih (i + 1) (x3 ++ clip (ofRg l[i])) (by omega) (by omega) (by rw [List.length_append]; omega) (fun x hx' => by
   rcases List.mem_append.1 hx' with h | h
   ·exact hr x h
   exact clip_range (l := [ofRg l[i]]) (by simpa using h))
  refine Ev.step (fun k => ?_) h
  simp only [ranges_Norm.l0]
  rw [if_pos (by omega), if_pos (by omega), if_pos (by omega), hrd, mx_rg, mn_rg, wrap_rg (x := (i : Int) + 1) (by omega) (by omega), show (i : Int) + 1 = ((i + 1 : Nat) : Int) by omega, hclip]
  by_cases hc : max l[i].f0 0 ≤ min l[i].f1 1114111
  ·rw [if_pos hc, if_pos hc, if_pos (by simp; omega)]
   simp [toRg]
  rw [if_neg hc, if_neg hc, List.append_nil]
theorem norm_ev (l : List S36) (hn : l.length ≤ 900000) : Ev (fun k => ranges_Norm.f k l) ((normL (l.map ofRg)).map toRg) := by
 have := norm_l0 l hn l.length 0 [] (Nat.zero_le _) (by omega) (by simp; omega) (fun x hx => by simp at hx)
 unfold ranges_Norm.f normL
 simpa using this
theorem map_back (l : List S36) : (l.map ofRg).map toRg = l := by rw [List.map_map]; exact List.map_id'' (fun x => toRg_ofRg x) l
theorem map_forth (l : List (Int × Int)) : (l.map toRg).map ofRg = l := by rw [List.map_map]; exact List.map_id'' (fun x => ofRg_toRg x) l
theorem normAt : NormAt normL (fun l => l.length ≤ 900000) := by
 intro A c l w hn hC hc
 obtain ⟨k, hk⟩ := Ev.rounds (norm_ev (l.map toRg) (by simpa using hn))
 rw [map_forth] at hk
 have hC' : Kd.C k36 w A (l.map toRg).length (l.map toRg) := by
  rw [rg_kd]
  exact C_iso.2 (by rw [map_forth, List.length_map]; exact hC)
 have h := ranges_Norm.calls k A c (l.map toRg) _ w hC' (by simpa using hc) hk
 rw [List.length_map] at h
 refine h.mono fun e w' ⟨v, he, hR, hb⟩ => ⟨v, he, ?_, hb⟩
 have := R_iso.1 (rg_kd ▸ hR)
 rwa [map_forth] at this
end
-- own text
def ofNm (x : S105) : ByteArray × ByteArray := (x.f0, x.f1)
theorem nm_kd : k105 = Kd.iso Go.Proofs.YtheheijhijeljaaGreatDoorX.kNm ofNm := rfl
def class_find.f (l0 : List S105) (a1 : ByteArray) : Option (List S36 × Int) := if Go.Proofs.YtheheijhijeljaaGreatDoorX.goodNm (l0.map ofNm) = true then some ((Go.Proofs.YtheheijhijeljaaGreatDoorX.findV Go.Proofs.YtheheijhijeljaaGreatDoorX.normL (l0.map ofNm) a1).1.map toRg, (Go.Proofs.YtheheijhijeljaaGreatDoorX.findV Go.Proofs.YtheheijhijeljaaGreatDoorX.normL (l0.map ofNm) a1).2) else none
theorem class_find.calls (A0 : Option Addr) (c0 : Nat) (l0 : List S105) (a1 : ByteArray) (r1 : List S36) (r2 : Int) (w : World) (hr0 : Kd.C k105 w A0 l0.length l0) (hc0 : l0.length ≤ c0) (h : class_find.f l0 a1 = some (r1, r2)) :
  Calls Tryz.prog 56 #[.slice A0 l0.length c0, .string a1] w fun e w' => ∃ v0_ : Value, e = .returned (.tuple #[v0_, .int .i64 r2]) ∧ Kd.R k36 36 w' w.heap.size (fun _ => True) v0_ r1 ∧ Below w.heap.size w w' := by
 unfold class_find.f at h
 split at h
 ·rename_i hs
  obtain ⟨h1, h2⟩ := Prod.mk.inj (Option.some.inj h)
  subst h1 h2
  obtain ⟨g1, g2⟩ := Go.Proofs.YtheheijhijeljaaGreatDoorX.good_nm hs
  have hb := Go.Proofs.YtheheijhijeljaaGreatDoorX.find_any normAt A0 c0 (l0.map ofNm) a1 w (by rw [List.length_map]; exact Go.Proofs.YtheheijhijeljaaGreatDoorX.C_iso.1 (nm_kd ▸ hr0)) (by rw [List.length_map]; exact hc0) g1 g2
  rw [List.length_map] at hb
  refine hb.mono fun e w' ⟨v, he, hR, hb⟩ => ⟨v, he, ?_, hb⟩
  rw [rg_kd]
  exact Go.Proofs.YtheheijhijeljaaGreatDoorX.R_iso.2 (by rw [map_forth]; exact hR)
 cases h
def class_letters.f  : Option ((List (S105))) := some (([(⟨(⟨#[100]⟩ : ByteArray), (⟨#[51, 48, 45, 51, 57]⟩ : ByteArray)⟩ : S105), (⟨(⟨#[115]⟩ : ByteArray), (⟨#[57, 32, 65, 32, 67, 32, 68, 32, 50, 48]⟩ : ByteArray)⟩ : S105), (⟨(⟨#[119]⟩ : ByteArray), (⟨#[51, 48, 45, 51, 57, 32, 52, 49, 45, 53, 65, 32, 53, 70, 32, 54, 49, 45, 55, 65]⟩ : ByteArray)⟩ : S105)] : List (S105)))
set_option maxHeartbeats 8000000 in
set_option maxRecDepth 100000 in
theorem class_letters.calls  (r : List (S105)) (w : World) (h : class_letters.f  = some r) :
  Calls Tryz.prog 57 #[] w fun e w' => ∃ v0_ : Value, e = .returned (v0_) ∧ Kd.R k105 105 w' w.heap.size (fun _ => True) v0_ r ∧ Below w.heap.size w w' := by
 have hu105 := Tryz.underlying105
 have HB := Aside0.mk (Below.refl w.heap.size w)
 have H : (some (([(⟨(⟨#[100]⟩ : ByteArray), (⟨#[51, 48, 45, 51, 57]⟩ : ByteArray)⟩ : S105), (⟨(⟨#[115]⟩ : ByteArray), (⟨#[57, 32, 65, 32, 67, 32, 68, 32, 50, 48]⟩ : ByteArray)⟩ : S105), (⟨(⟨#[119]⟩ : ByteArray), (⟨#[51, 48, 45, 51, 57, 32, 52, 49, 45, 53, 65, 32, 53, 70, 32, 54, 49, 45, 55, 65]⟩ : ByteArray)⟩ : S105)] : List (S105)))) = some r := h
 clear h
 obtain ⟨y120, hy120⟩ : ∃ y_ : List (S105), y_ = (([(⟨(⟨#[100]⟩ : ByteArray), (⟨#[51, 48, 45, 51, 57]⟩ : ByteArray)⟩ : S105), (⟨(⟨#[115]⟩ : ByteArray), (⟨#[57, 32, 65, 32, 67, 32, 68, 32, 50, 48]⟩ : ByteArray)⟩ : S105), (⟨(⟨#[119]⟩ : ByteArray), (⟨#[51, 48, 45, 51, 57, 32, 52, 49, 45, 53, 65, 32, 53, 70, 32, 54, 49, 45, 55, 65]⟩ : ByteArray)⟩ : S105)] : List (S105))) := ⟨_, rfl⟩
 rw [← hy120] at H
 try rw [Option.bind_some] at H
 have Ny120 := Aside0.mk hy120
 clear hy120
 obtain rfl := Option.some.inj H
 go_enter Tryz.func57, Tryz.ntmps57
 go_wp2_with (first | ((with_reducible refine gate_dst (N := 4) rfl ?_); refine Kd.R_lit k105 _ 105 ?hg (N := 4) ?hd (xs := ([(⟨(⟨#[100]⟩ : ByteArray), (⟨#[51, 48, 45, 51, 57]⟩ : ByteArray)⟩ : S105), (⟨(⟨#[115]⟩ : ByteArray), (⟨#[57, 32, 65, 32, 67, 32, 68, 32, 50, 48]⟩ : ByteArray)⟩ : S105), (⟨(⟨#[119]⟩ : ByteArray), (⟨#[51, 48, 45, 51, 57, 32, 52, 49, 45, 53, 65, 32, 53, 70, 32, 54, 49, 45, 55, 65]⟩ : ByteArray)⟩ : S105)] : List (S105))) (inner := [.string (⟨#[100]⟩ : ByteArray), .string (⟨#[51, 48, 45, 51, 57]⟩ : ByteArray), .string (⟨#[115]⟩ : ByteArray), .string (⟨#[57, 32, 65, 32, 67, 32, 68, 32, 50, 48]⟩ : ByteArray), .string (⟨#[119]⟩ : ByteArray), .string (⟨#[51, 48, 45, 51, 57, 32, 52, 49, 45, 53, 65, 32, 53, 70, 32, 54, 49, 45, 55, 65]⟩ : ByteArray)]) (ok := fun _ => True) (okp := fun _ => True) ?hr ?hp (fun _ hk => hk) trivial (Below.refl _ _) (Nat.le_refl _) (by simp) ?_; (case hd => rfl); (case hg => rfl); (case hr => first | (go_simp; done) | (go_simp; rfl)); (case hp => exact (Reps.c2 (k105_mkM _ _ _ _) (Reps.c2 (k105_mkM _ _ _ _) (Reps.c2 (k105_mkM _ _ _ _) (Reps.none _ _))))); intro v121 w1 ho2 hb hg_ hnew_; clear hg_ hnew_; (first | rw [← Ny120.out] at ho2 | (simp only [Int.reduceToNat] at ho2; rw [← Ny120.out] at ho2)); have HO122 := Aside0.mk (Kd.R_lower ho2 (below_size bz)); replace HB := hz hb; clear hb ho2))
 go_ret
 exact ⟨_, fz, rz HO122.out, bz⟩
def ranges_Not.l0 : Nat → List (S36) → Int → List (S36) → Int → Int → Option ((List (S36)))
 | 0, _, _, _, _, _ => none
 | k + 1, x3, x4, x8, x9, x10 => if x10 < x9 then (if 0 ≤ x10 then (if x10 < (x8.length : Int) then (if ((rd_T36 x8 x10).f0) > x4 then (if x3.length < 8796093022208 then (ranges_Not.l0 k (x3 ++ [(⟨x4, wrap64 (((rd_T36 x8 x10).f0) - 1)⟩ : S36)]) (wrap64 (((rd_T36 x8 x10).f1) + 1)) x8 x9 (wrap64 (x10 + 1))) else (none)) else (ranges_Not.l0 k x3 (wrap64 (((rd_T36 x8 x10).f1) + 1)) x8 x9 (wrap64 (x10 + 1)))) else (none)) else (none)) else (if x4 ≤ 1114111 then (if x3.length < 8796093022208 then (some (x3 ++ [(⟨x4, 1114111⟩ : S36)])) else (none)) else (some x3))
def ranges_Not.f (k : Nat) (l0 : List (S36)) : Option ((List (S36))) := (ranges_Norm.f k l0).bind fun t123 => (ranges_Not.l0 k ([] : List (S36)) 0 t123 (t123.length : Int) 0)
theorem ranges_Not.mono_l : ∀ k, (∀ y0 y1 y2 y3 y4, LeO (ranges_Not.l0 k y0 y1 y2 y3 y4) (ranges_Not.l0 (k + 1) y0 y1 y2 y3 y4))
 | 0 => fun _ _ _ _ _ r h => by simp [ranges_Not.l0] at h
 | k + 1 => by
  have ih0 := ranges_Not.mono_l k
  intro y0 y1 y2 y3 y4
  unfold ranges_Not.l0
  repeat' first
  | (with_reducible exact ih0 _ _ _ _ _)
  | (with_reducible exact ranges_Norm.mono _ _)
  | (with_reducible exact LeO.refl _)
  | (with_reducible exact LeO.none _)
  | (with_reducible refine LeO.ite ?_ ?_)
  | (with_reducible refine LeO.bind ?_ (fun _ => ?_))
  | exact ih0 _ _ _ _ _
  | exact ranges_Norm.mono _ _
  | exact LeO.none _
  | refine LeO.ite ?_ ?_
  | refine LeO.bind ?_ (fun _ => ?_)
theorem ranges_Not.mono : ∀ a0 k, LeO (ranges_Not.f k a0) (ranges_Not.f (k + 1) a0) := by
 intro a0 k
 have ih0 := ranges_Not.mono_l k
 unfold ranges_Not.f
 repeat' first
   | (with_reducible exact ih0 _ _ _ _ _)
   | (with_reducible exact ranges_Norm.mono _ _)
   | (with_reducible exact LeO.refl _)
   | (with_reducible exact LeO.none _)
   | (with_reducible refine LeO.ite ?_ ?_)
   | (with_reducible refine LeO.bind ?_ (fun _ => ?_))
   | exact ih0 _ _ _ _ _
   | exact ranges_Norm.mono _ _
   | exact LeO.none _
   | refine LeO.ite ?_ ?_
   | refine LeO.bind ?_ (fun _ => ?_)
set_option maxHeartbeats 8000000 in
set_option maxRecDepth 100000 in
theorem ranges_Not.calls (k : Nat) (A0 : Option Addr) (c0 : Nat) (l0 : List (S36)) (r : List (S36)) (w : World) (hr0 : Kd.C k36 w A0 l0.length l0) (hc0 : l0.length ≤ c0) (h : ranges_Not.f k l0 = some r) :
  Calls Tryz.prog 19 #[.slice A0 l0.length c0] w fun e w' => ∃ v0_ : Value, e = .returned (v0_) ∧ Kd.R k36 36 w' w.heap.size (fun _ => True) v0_ r ∧ Below w.heap.size w w' := by
 have hu36 := Tryz.underlying36
 have HR0 := Aside0.mk hr0
 have HC0 := Aside0.mk hc0
 clear hr0 hc0
 have HB := Aside0.mk (Below.refl w.heap.size w)
 have H : ((ranges_Norm.f k l0).bind fun t123 => (ranges_Not.l0 k ([] : List (S36)) 0 t123 (t123.length : Int) 0)) = some r := h
 clear h
 replace H := Option.bind_eq_some_iff.mp H
 obtain ⟨t123, A20, H⟩ := H
 try dsimp only at H
 have A2 := Aside0.mk A20
 clear A20
 have H' := Aside0.mk H
 clear H
 go_enter Tryz.func19, Tryz.ntmps19
 go_wp2_with (first | ((with_reducible refine gate_callee (f := 17) rfl ?_); refine goesL_ (some 8) rfl rfl Tryz.func17 kz rfl #[.slice A0 l0.length c0] rfl mz ?_; (with_reducible refine (ranges_Norm.calls k _ _ l0 t123 _ ?side1 ?side2 A2.out).mono ?_); (case side1 => repeat (first | exact HR0.out | (with_reducible refine Kd.C_alloc ?_ _) | (with_reducible refine Kd.C_drewN ?_ _) | (with_reducible refine Kd.C_drew ?_))); (case side2 => exact HC0.out); rintro e w3 ⟨v124, rfl, ho0, hb⟩; refine ⟨_, rfl, ?_⟩; have HO125 := Aside0.mk (Kd.R_lower ho0 (below_size bz)); replace HB := hz hb; (try clear hb); (try clear ho0); obtain ⟨Ao4, co4, eo4⟩ := Kd.R_slice HO125.out; subst eo4))
 go_loopg [3, 4, 10] k (fun kq v3 v4 v10 w' => ∃ (x3_1 : List (S36)) (x4_1 : Int) (x10_1 : Int), v4 = .int .i64 x4_1 ∧ v10 = .int .i64 x10_1 ∧ Aside0 (ranges_Not.l0 kq x3_1 x4_1 t123 (t123.length : Int) x10_1 = some r) ∧ Aside0 (kq ≤ k) ∧ Aside0 (Kd.R k36 36 w' w.heap.size (fun k_ => some k_ ≠ ((.slice Ao4 t123.length co4) : Value).ownBlock) v3 x3_1) ∧ Aside0 (Kd.R k36 36 w' w.heap.size (fun k_ => some k_ ≠ (v3 : Value).ownBlock) (.slice Ao4 t123.length co4) t123) ∧ Aside0 (Below w.heap.size w w'))
 case atStart => exact ⟨(([] : List (S36))), (0), (0), ez, ez, H', ⟨Nat.le_refl _⟩, ⟨by first | exact Kd.R_nil _ _ _ _ _ | exact Kd.N_nil _ _ _ _ _ | exact Kd.V_nil _ _ _ _ _ | exact Kd.Q_nil _ _ _ _ _ | exact Kd.S_nil _ _ _ _ _⟩, ⟨by (with_reducible repeat (first | apply Kd.R_alloc | apply Kd.R_drewN | apply Kd.R_drew)); exact Kd.R_mono HO125.out (fun _ hk => (by simp [Value.ownBlock]))⟩, ⟨bz⟩⟩
 clear H'
 try clear c1
 try clear p2
 obtain ⟨x3_1, x4_1, x10_1, rfl, rfl, HA, HK1, HO_3, HO_8, HB⟩ := hrel
 cases gk with
 | zero => exact absurd HA.out (by simp [ranges_Not.l0])
 | succ k1 =>
  have H := HA.out
  clear HA
  simp only [ranges_Not.l0] at H
  by_cases c5 : x10_1 < (t123.length : Int)
  ·rw [if_pos c5] at H
   have c5b0 := decide_eq_true c5
   clear c5
   by_cases c6 : 0 ≤ x10_1
   rotate_left
   ·exact nomatch (if_neg c6).symm.trans H
   rw [if_pos c6] at H
   have c6b0 := decide_eq_true c6
   clear c6
   by_cases c7 : x10_1 < (t123.length : Int)
   rotate_left
   ·exact nomatch (if_neg c7).symm.trans H
   rw [if_pos c7] at H
   have c7b0 := decide_eq_true c7
   clear c7
   by_cases c8 : ((rd_T36 t123 x10_1).f0) > x4_1
   ·rw [if_pos c8] at H
    have c8b0 : decide (x4_1 < ((rd_T36 t123 x10_1).f0)) = true := decide_eq_true c8
    clear c8
    by_cases c9 : x3_1.length < 8796093022208
    rotate_left
    ·exact nomatch (if_neg c9).symm.trans H
    rw [if_pos c9] at H
    have LMc9 := Aside0.mk c9
    clear c9
    obtain ⟨y128, hy128⟩ : ∃ y_ : List (S36), y_ = (x3_1 ++ [(⟨x4_1, wrap64 (((rd_T36 t123 x10_1).f0) - 1)⟩ : S36)]) := ⟨_, rfl⟩
    rw [← hy128] at H
    try rw [Option.bind_some] at H
    have Ny128 := Aside0.mk hy128
    clear hy128
    have H' := Aside0.mk H
    clear H
    have p126 : 0 ≤ (x10_1 : Int) := oz
    have q126 : x10_1 < (t123.length : Int) := oz
    obtain ⟨ad126, e126, hx126_0, hx126_1⟩ := at_T36 (Kd.R_reads' HO_8.out).2.2 x10_1 p126 q126
    cases e126
    replace p126 := eq_true p126
    replace q126 := eq_true q126
    go_wp2_with (first | ((with_reducible refine gate_dst (N := 6) rfl ?_); refine box_event ?hg (N := 6) ?hd (cs := #[.int .i64 0, .int .i64 0]) (t := 36) ?hr ?_; (case hd => rfl); (case hg => rfl); (case hr => first | (go_simp; done) | (go_simp; rfl)); intro gb127 hg w10 hbox hb; have n0_ := Aside0.mk (Kd.R_below (Kd.R_elderB (rz HO_3.out) gb127 (Nat.le_of_eq hg.symm)) hb); have n1_ := Aside0.mk (Kd.R_below (Kd.R_elderB (rz HO_8.out) gb127 (Nat.le_of_eq hg.symm)) hb); have n2_ := hz hb; have n3_ := Aside0.mk (hbox); have n4_ := Aside0.mk ((by rw [hg]; exact (below_size bz) : w.heap.size ≤ gb127)); have n5_ := Aside0.mk ((by rw [hg]; exact (below_size bz) : w.heap.size ≤ gb127)); clear HO_3; clear HO_8; clear HB; have HO_3 := n0_; have HO_8 := n1_; have HB := n2_; have BK127 := n3_; have GW127 := n4_; have GE127 := n5_; clear n0_ n1_ n2_ n3_ n4_ n5_; clear hb hbox hg; have hcz11_0 : w10.cell? ⟨gb127, 0, none⟩ = some (.int .i64 0) := (blk_cell BK127.out 0).trans rfl; have hcz11_1 : w10.cell? ⟨gb127, 1, none⟩ = some (.int .i64 0) := (blk_cell BK127.out 1).trans rfl; have hfz11_0 := blk_frozen BK127.out 0; have hfz11_1 := blk_frozen BK127.out 1; have hcy11_a : ∀ u, (w10.setCell ⟨gb127, 0, none⟩ u).cell? ⟨gb127, 1, none⟩ = some (.int .i64 0) := fun u => (blk_cell (blk_put BK127.out 0 u rfl) 1).trans rfl; have hcy11_b : ∀ u v, ((w10.setCell ⟨gb127, 0, none⟩ u).setCell ⟨gb127, 1, none⟩ v).cell? ⟨gb127, 0, none⟩ = some u := fun u v => (blk_cell (blk_put (blk_put BK127.out 0 u rfl) 1 v rfl) 0).trans rfl; have hcy11_c : ∀ u v u1, (((w10.setCell ⟨gb127, 0, none⟩ u).setCell ⟨gb127, 1, none⟩ v).setCell ⟨gb127, 0, none⟩ u1).cell? ⟨gb127, 1, none⟩ = some v := fun u v u1 => (blk_cell (blk_put (blk_put (blk_put BK127.out 0 u rfl) 1 v rfl) 0 u1 rfl) 1).trans rfl) | ((with_reducible refine gate_builtin (b := .append) (xs := #[.tmp 18, .tmp 24]) rfl ?_); at_builtin; refine Kd.R_append k36 (w0 := w) w.heap.size rfl (.tmp 18) (.tmp 24) 26 36 (.agg #[(.int .i64 0), (.int .i64 0)]) 16 rfl Tryz.underlying26 info36 rfl (by decide) (by omega) u3 x3_1 (⟨x4_1, wrap64 (((rd_T36 t123 x10_1).f0) - 1)⟩ : S36) [.int .i64 x4_1, .int .i64 (wrap64 (((rd_T36 t123 x10_1).f0) - 1))] (fun k_ => some k_ ≠ (.slice (some ad126) t123.length co4 : Value).ownBlock ∧ k_ ≠ gb127) (fun _ => False) rfl (by first | (go_simp; done) | (go_simp; rfl)) ?aP (fun _ hk => hk.elim) ?aF ?aO ?aB ?aS ?aL ?_; (case aP => exact k36_mkM _ _ _ (⟨x4_1, wrap64 (((rd_T36 t123 x10_1).f0) - 1)⟩ : S36)); (case aB => exact (by repeat (first | (with_reducible first | exact HB.out | apply below_alloc | apply pw_below_drewN | apply below_drew1 | refine below_set ?_ GE127.out) | exact HB.out))); (case aF => exact (fun k_ hk => ⟨Kd.fresh' (Kd.R_lt (by (with_reducible repeat (first | apply Kd.R_alloc | apply Kd.R_drewN | apply Kd.R_drew)); exact (Kd.R_mono (Kd.R_far (p := ⟨gb127, 1, none⟩) (Kd.R_far (p := ⟨gb127, 0, none⟩) (Kd.R_mono HO_8.out (fun k_ hk => (⟨hk, hk.2⟩ : _ ∧ k_ ≠ gb127))) (fun _ hk => hk.2) (.int .i64 ((rd_T36 t123 x10_1).f0))) (fun _ hk => hk.2) (.int .i64 ((rd_T36 t123 x10_1).f1))) (fun _ h_ => h_.1)))) k_ hk, Kd.freshB (g := gb127) (o := .cells #[.int .i64 ((rd_T36 t123 x10_1).f0), .int .i64 ((rd_T36 t123 x10_1).f1)] 36 (0, 0)) (by (with_reducible repeat (first | refine blk_drewN ?_ _ | refine blk_drew ?_ | refine blk_alloc ?_ _)); refine blk_put (cs := #[.int .i64 ((rd_T36 t123 x10_1).f0), .int .i64 0]) ?_ 1 _ rfl; (with_reducible repeat (first | refine blk_drewN ?_ _ | refine blk_drew ?_ | refine blk_alloc ?_ _)); refine blk_put (cs := #[.int .i64 0, .int .i64 0]) ?_ 0 _ rfl; (with_reducible repeat (first | refine blk_drewN ?_ _ | refine blk_drew ?_ | refine blk_alloc ?_ _)); exact BK127.out) k_ hk⟩)); (case aO => exact (by (with_reducible repeat (first | apply Kd.R_alloc | apply Kd.R_drewN | apply Kd.R_drew)); exact Kd.R_mono (Kd.R_far (p := ⟨gb127, 1, none⟩) (Kd.R_far (p := ⟨gb127, 0, none⟩) (Kd.R_mono HO_3.out (fun k_ hk => (⟨hk, hk.2⟩ : _ ∧ k_ ≠ gb127))) (fun _ hk => hk.2) (.int .i64 ((rd_T36 t123 x10_1).f0))) (fun _ hk => hk.2) (.int .i64 ((rd_T36 t123 x10_1).f1))) (fun _ hk => ⟨hk.1.1, hk.1.2⟩))); (case aS => exact (below_size (by repeat (first | (with_reducible first | exact HB.out | apply below_alloc | apply pw_below_drewN | apply below_drew1 | refine below_set ?_ GE127.out) | exact HB.out)))); (case aL => have := LMc9.out; omega); intro v129 w12 ho hb hg hat; rw [← Ny128.out] at ho; have n0_ := Aside0.mk (Kd.R_after (ok := (fun k_ => k_ ≠ gb127)) (by (with_reducible repeat (first | apply Kd.R_alloc | apply Kd.R_drewN | apply Kd.R_drew)); exact Kd.R_mono (Kd.R_far (p := ⟨gb127, 1, none⟩) (Kd.R_far (p := ⟨gb127, 0, none⟩) (Kd.R_mono HO_8.out (fun k_ hk => (⟨hk, hk.2⟩ : _ ∧ k_ ≠ gb127))) (fun _ hk => hk.2) (.int .i64 ((rd_T36 t123 x10_1).f0))) (fun _ hk => hk.2) (.int .i64 ((rd_T36 t123 x10_1).f1))) (fun _ hk => ⟨hk.1.2, hk.1.1⟩)) hg hat); have n1_ := Aside0.mk (blk_grown (g := gb127) (o := .cells #[.int .i64 ((rd_T36 t123 x10_1).f0), .int .i64 ((rd_T36 t123 x10_1).f1)] 36 (0, 0)) (by (with_reducible repeat (first | refine blk_drewN ?_ _ | refine blk_drew ?_ | refine blk_alloc ?_ _)); refine blk_put (cs := #[.int .i64 ((rd_T36 t123 x10_1).f0), .int .i64 0]) ?_ 1 _ rfl; (with_reducible repeat (first | refine blk_drewN ?_ _ | refine blk_drew ?_ | refine blk_alloc ?_ _)); refine blk_put (cs := #[.int .i64 0, .int .i64 0]) ?_ 0 _ rfl; (with_reducible repeat (first | refine blk_drewN ?_ _ | refine blk_drew ?_ | refine blk_alloc ?_ _)); exact BK127.out) hg (Kd.R_away HO_3.out (fun _ hk => hk.2))); have n2_ := Aside0.mk (hb); have n3_ := Aside0.mk (ho); clear HO_8; clear BK127; clear HB; clear HO_3; have HO_8 := n0_; have BK127 := n1_; have HB := n2_; have HO130 := n3_; clear n0_ n1_ n2_ n3_; clear ho hb hg hat; have hcz13_0 : w12.cell? ⟨gb127, 0, none⟩ = some (.int .i64 ((rd_T36 t123 x10_1).f0)) := (blk_cell BK127.out 0).trans rfl; have hcz13_1 : w12.cell? ⟨gb127, 1, none⟩ = some (.int .i64 ((rd_T36 t123 x10_1).f1)) := (blk_cell BK127.out 1).trans rfl; have hfz13_0 := blk_frozen BK127.out 0; have hfz13_1 := blk_frozen BK127.out 1; have hcy13_a : ∀ u, (w12.setCell ⟨gb127, 0, none⟩ u).cell? ⟨gb127, 1, none⟩ = some (.int .i64 ((rd_T36 t123 x10_1).f1)) := fun u => (blk_cell (blk_put BK127.out 0 u rfl) 1).trans rfl; have hcy13_b : ∀ u v, ((w12.setCell ⟨gb127, 0, none⟩ u).setCell ⟨gb127, 1, none⟩ v).cell? ⟨gb127, 0, none⟩ = some u := fun u v => (blk_cell (blk_put (blk_put BK127.out 0 u rfl) 1 v rfl) 0).trans rfl; have hcy13_c : ∀ u v u1, (((w12.setCell ⟨gb127, 0, none⟩ u).setCell ⟨gb127, 1, none⟩ v).setCell ⟨gb127, 0, none⟩ u1).cell? ⟨gb127, 1, none⟩ = some v := fun u v u1 => (blk_cell (blk_put (blk_put (blk_put BK127.out 0 u rfl) 1 v rfl) 0 u1 rfl) 1).trans rfl))
    go_roundg k1
    case measure => have := HK1.out; omega
    case rel => exact ⟨(y128), (wrap64 (((rd_T36 t123 x10_1).f1) + 1)), (wrap64 (x10_1 + 1)), ez, ez, H', ⟨by have := HK1.out; omega⟩, ⟨by (with_reducible repeat (first | apply Kd.R_alloc | apply Kd.R_drewN | apply Kd.R_drew)); exact Kd.R_mono HO130.out (fun _ hk => hk.1)⟩, ⟨by (with_reducible repeat (first | apply Kd.R_alloc | apply Kd.R_drewN | apply Kd.R_drew)); exact Kd.R_mono HO_8.out (fun _ hk => hk.2)⟩, ⟨by repeat (first | (with_reducible first | exact HB.out | apply below_alloc | apply pw_below_drewN | apply below_drew1 | refine below_set ?_ GE127.out) | exact HB.out)⟩⟩
   rw [if_neg c8] at H
   have c8b0 : decide (x4_1 < ((rd_T36 t123 x10_1).f0)) = false := decide_eq_false c8
   clear c8
   have H' := Aside0.mk H
   clear H
   have p126 : 0 ≤ (x10_1 : Int) := oz
   have q126 : x10_1 < (t123.length : Int) := oz
   obtain ⟨ad126, e126, hx126_0, hx126_1⟩ := at_T36 (Kd.R_reads' HO_8.out).2.2 x10_1 p126 q126
   cases e126
   replace p126 := eq_true p126
   replace q126 := eq_true q126
   go_wp2_with (first | ((with_reducible refine gate_dst (N := 6) rfl ?_); refine box_event ?hg (N := 6) ?hd (cs := #[.int .i64 0, .int .i64 0]) (t := 36) ?hr ?_; (case hd => rfl); (case hg => rfl); (case hr => first | (go_simp; done) | (go_simp; rfl)); intro gb127 hg w14 hbox hb; have n0_ := Aside0.mk (Kd.R_below (Kd.R_elderB (rz HO_3.out) gb127 (Nat.le_of_eq hg.symm)) hb); have n1_ := Aside0.mk (Kd.R_below (Kd.R_elderB (rz HO_8.out) gb127 (Nat.le_of_eq hg.symm)) hb); have n2_ := hz hb; have n3_ := Aside0.mk (hbox); have n4_ := Aside0.mk ((by rw [hg]; exact (below_size bz) : w.heap.size ≤ gb127)); have n5_ := Aside0.mk ((by rw [hg]; exact (below_size bz) : w.heap.size ≤ gb127)); clear HO_3; clear HO_8; clear HB; have HO_3 := n0_; have HO_8 := n1_; have HB := n2_; have BK127 := n3_; have GW127 := n4_; have GE127 := n5_; clear n0_ n1_ n2_ n3_ n4_ n5_; clear hb hbox hg; have hcz15_0 : w14.cell? ⟨gb127, 0, none⟩ = some (.int .i64 0) := (blk_cell BK127.out 0).trans rfl; have hcz15_1 : w14.cell? ⟨gb127, 1, none⟩ = some (.int .i64 0) := (blk_cell BK127.out 1).trans rfl; have hfz15_0 := blk_frozen BK127.out 0; have hfz15_1 := blk_frozen BK127.out 1; have hcy15_a : ∀ u, (w14.setCell ⟨gb127, 0, none⟩ u).cell? ⟨gb127, 1, none⟩ = some (.int .i64 0) := fun u => (blk_cell (blk_put BK127.out 0 u rfl) 1).trans rfl; have hcy15_b : ∀ u v, ((w14.setCell ⟨gb127, 0, none⟩ u).setCell ⟨gb127, 1, none⟩ v).cell? ⟨gb127, 0, none⟩ = some u := fun u v => (blk_cell (blk_put (blk_put BK127.out 0 u rfl) 1 v rfl) 0).trans rfl; have hcy15_c : ∀ u v u1, (((w14.setCell ⟨gb127, 0, none⟩ u).setCell ⟨gb127, 1, none⟩ v).setCell ⟨gb127, 0, none⟩ u1).cell? ⟨gb127, 1, none⟩ = some v := fun u v u1 => (blk_cell (blk_put (blk_put (blk_put BK127.out 0 u rfl) 1 v rfl) 0 u1 rfl) 1).trans rfl))
   go_roundg k1
   case measure => have := HK1.out; omega
   case rel => exact ⟨(x3_1), (wrap64 (((rd_T36 t123 x10_1).f1) + 1)), (wrap64 (x10_1 + 1)), ez, ez, H', ⟨by have := HK1.out; omega⟩, ⟨by (with_reducible repeat (first | apply Kd.R_alloc | apply Kd.R_drewN | apply Kd.R_drew)); exact Kd.R_mono (Kd.R_far (p := ⟨gb127, 1, none⟩) (Kd.R_far (p := ⟨gb127, 0, none⟩) (Kd.R_mono HO_3.out (fun k_ hk => (⟨hk, hk.2⟩ : _ ∧ k_ ≠ gb127))) (fun _ hk => hk.2) (.int .i64 ((rd_T36 t123 x10_1).f0))) (fun _ hk => hk.2) (.int .i64 ((rd_T36 t123 x10_1).f1))) (fun _ hk => hk.1.1)⟩, ⟨by (with_reducible repeat (first | apply Kd.R_alloc | apply Kd.R_drewN | apply Kd.R_drew)); exact Kd.R_mono (Kd.R_far (p := ⟨gb127, 1, none⟩) (Kd.R_far (p := ⟨gb127, 0, none⟩) (Kd.R_mono HO_8.out (fun k_ hk => (⟨hk, hk.2⟩ : _ ∧ k_ ≠ gb127))) (fun _ hk => hk.2) (.int .i64 ((rd_T36 t123 x10_1).f0))) (fun _ hk => hk.2) (.int .i64 ((rd_T36 t123 x10_1).f1))) (fun _ hk => hk.1.1)⟩, ⟨by repeat (first | (with_reducible first | exact HB.out | apply below_alloc | apply pw_below_drewN | apply below_drew1 | refine below_set ?_ GE127.out) | exact HB.out)⟩⟩
  rw [if_neg c5] at H
  have c5b0 := decide_eq_false c5
  clear c5
  by_cases c16 : x4_1 ≤ 1114111
  ·rw [if_pos c16] at H
   have c16b0 := decide_eq_true c16
   clear c16
   by_cases c17 : x3_1.length < 8796093022208
   rotate_left
   ·exact nomatch (if_neg c17).symm.trans H
   rw [if_pos c17] at H
   have LMc17 := Aside0.mk c17
   clear c17
   obtain ⟨y131, hy131⟩ : ∃ y_ : List (S36), y_ = (x3_1 ++ [(⟨x4_1, 1114111⟩ : S36)]) := ⟨_, rfl⟩
   rw [← hy131] at H
   try rw [Option.bind_some] at H
   have Ny131 := Aside0.mk hy131
   clear hy131
   obtain rfl := Option.some.inj H
   go_wp2_with (first | ((with_reducible refine gate_builtin (b := .append) (xs := #[.tmp 32, .tmp 35]) rfl ?_); at_builtin; refine Kd.R_append k36 (w0 := w) w.heap.size rfl (.tmp 32) (.tmp 35) 26 36 (.agg #[(.int .i64 0), (.int .i64 0)]) 16 rfl Tryz.underlying26 info36 rfl (by decide) (by omega) u3 x3_1 (⟨x4_1, 1114111⟩ : S36) [.int .i64 x4_1, .int .i64 1114111] (fun k_ => some k_ ≠ (.slice Ao4 t123.length co4 : Value).ownBlock) (fun _ => False) rfl rfl ?aP (fun _ hk => hk.elim) ?aF ?aO ?aB ?aS ?aL ?_; (case aP => exact k36_mkM _ _ _ (⟨x4_1, 1114111⟩ : S36)); (case aB => exact bz); (case aF => exact (fun k_ hk => Kd.fresh' (Kd.R_lt (rz HO_8.out)) k_ hk)); (case aO => exact (rz HO_3.out)); (case aS => exact (below_size bz)); (case aL => have := LMc17.out; omega); intro v132 w18 ho hb hg hat; rw [← Ny131.out] at ho; have n0_ := Aside0.mk (Kd.R_after (ok := (fun _ => True)) (by (with_reducible repeat (first | apply Kd.R_alloc | apply Kd.R_drewN | apply Kd.R_drew)); exact Kd.R_mono HO_8.out (fun _ hk => ⟨trivial, hk⟩)) hg hat); have n1_ := Aside0.mk (hb); have n2_ := Aside0.mk (ho); clear HO_8; clear HB; clear HO_3; have HO_8 := n0_; have HB := n1_; have HO133 := n2_; clear n0_ n1_ n2_; clear ho hb hg hat))
   go_ret
   exact ⟨_, fz, rz (R_all HO133.out), bz⟩
  rw [if_neg c16] at H
  have c16b0 := decide_eq_false c16
  clear c16
  obtain rfl := Option.some.inj H
  go_wp2
  go_ret
  exact ⟨_, fz, rz (R_all HO_3.out), bz⟩
def stringslite_HasPrefix.f (a0 : ByteArray) (a1 : ByteArray) : Option (Bool) := if (a0.size : Int) ≥ (a1.size : Int) then (if 0 ≤ (a1.size : Int) then (if (a1.size : Int) ≤ (a0.size : Int) then (some ((a0.extract 0 ((a1.size : Int) : Int).toNat).toList == a1.toList)) else (none)) else (none)) else (some false)
set_option maxHeartbeats 8000000 in
set_option maxRecDepth 100000 in
theorem stringslite_HasPrefix.calls (a0 : ByteArray) (a1 : ByteArray) (r : Bool) (w : World) (h : stringslite_HasPrefix.f a0 a1 = some r) :
  Calls Tryz.prog 96 #[.string a0, .string a1] w fun e w' => e = .returned (.bool r) ∧ Drawn0 w w' := by
 have H : (if (a0.size : Int) ≥ (a1.size : Int) then (if 0 ≤ (a1.size : Int) then (if (a1.size : Int) ≤ (a0.size : Int) then (some ((a0.extract 0 ((a1.size : Int) : Int).toNat).toList == a1.toList)) else (none)) else (none)) else (some false)) = some r := h
 clear h
 by_cases c3 : (a0.size : Int) ≥ (a1.size : Int)
 ·rw [if_pos c3] at H
  have c3b0 : decide ((a1.size : Int) ≤ (a0.size : Int)) = true := decide_eq_true c3
  have c3b1 : decide (a1.size ≤ a0.size) = true := decide_eq_true (Int.ofNat_le.mp c3)
  clear c3
  by_cases c4 : 0 ≤ (a1.size : Int)
  rotate_left
  ·exact nomatch (if_neg c4).symm.trans H
  rw [if_pos c4] at H
  have c4b0 := eq_true c4
  have c4b1 := decide_eq_true c4
  clear c4
  by_cases c5 : (a1.size : Int) ≤ (a0.size : Int)
  rotate_left
  ·exact nomatch (if_neg c5).symm.trans H
  rw [if_pos c5] at H
  have c5b0 := eq_true c5
  have c5b1 := decide_eq_true c5
  clear c5
  obtain rfl := Option.some.inj H
  go_enter Tryz.func96, Tryz.ntmps96
  go_wp2
  go_ret
  exact ⟨ez, dz⟩
 rw [if_neg c3] at H
 have c3b0 : decide ((a1.size : Int) ≤ (a0.size : Int)) = false := decide_eq_false c3
 have c3b1 : decide (a1.size ≤ a0.size) = false := decide_eq_false (fun h => c3 (Int.ofNat_le.mpr h))
 clear c3
 obtain rfl := Option.some.inj H
 go_enter Tryz.func96, Tryz.ntmps96
 go_wp2
 go_ret
 exact ⟨ez, dz⟩
def stringslite_CutPrefix.f (a0 : ByteArray) (a1 : ByteArray) : Option (ByteArray × Bool) := (stringslite_HasPrefix.f a0 a1).bind fun t134 => (if t134 = true then (if 0 ≤ (a1.size : Int) then (if (a1.size : Int) ≤ (a0.size : Int) then (some (a0.extract ((a1.size : Int) : Int).toNat a0.size, true)) else (none)) else (none)) else (some (a0, false)))
set_option maxHeartbeats 8000000 in
set_option maxRecDepth 100000 in
theorem stringslite_CutPrefix.calls (a0 : ByteArray) (a1 : ByteArray) (r1 : ByteArray) (r2 : Bool) (w : World) (h : stringslite_CutPrefix.f a0 a1 = some (r1, r2)) :
  Calls Tryz.prog 120 #[.string a0, .string a1] w fun e w' => e = .returned (.tuple #[.string r1, .bool r2]) ∧ Drawn0 w w' := by
 have H : ((stringslite_HasPrefix.f a0 a1).bind fun t134 => (if t134 = true then (if 0 ≤ (a1.size : Int) then (if (a1.size : Int) ≤ (a0.size : Int) then (some (a0.extract ((a1.size : Int) : Int).toNat a0.size, true)) else (none)) else (none)) else (some (a0, false)))) = some (r1, r2) := h
 clear h
 replace H := Option.bind_eq_some_iff.mp H
 obtain ⟨t134, A30, H⟩ := H
 try dsimp only at H
 have A3 := Aside0.mk A30
 clear A30
 by_cases c4 : t134 = true
 ·subst c4
  rw [if_pos rfl] at H
  by_cases c5 : 0 ≤ (a1.size : Int)
  rotate_left
  ·exact nomatch (if_neg c5).symm.trans H
  rw [if_pos c5] at H
  have c5b0 := eq_true c5
  have c5b1 := decide_eq_true c5
  clear c5
  by_cases c6 : (a1.size : Int) ≤ (a0.size : Int)
  rotate_left
  ·exact nomatch (if_neg c6).symm.trans H
  rw [if_pos c6] at H
  have c6b0 := eq_true c6
  have c6b1 := decide_eq_true c6
  clear c6
  simp only [Option.some.injEq, Prod.mk.injEq] at H
  obtain ⟨rfl, rfl⟩ := H
  go_enter Tryz.func120, Tryz.ntmps120
  go_wp2_with (first | ((with_reducible refine gate_callee (f := 96) rfl ?_); refine goesL_ (some 8) rfl rfl Tryz.func96 kz rfl #[.string a0, .string a1] rfl mz ?_; (with_reducible refine (stringslite_HasPrefix.calls a0 a1 true _ A3.out).mono ?_); rintro e w' ⟨rfl, ⟨nd, rfl⟩⟩; refine ⟨_, rfl, ?_⟩))
  go_ret2
  exact ⟨ez, dz⟩
 replace c4 := Bool.eq_false_iff.mpr c4
 subst c4
 rw [if_neg (show ¬ (false = true) by decide)] at H
 simp only [Option.some.injEq, Prod.mk.injEq] at H
 obtain ⟨rfl, rfl⟩ := H
 go_enter Tryz.func120, Tryz.ntmps120
 go_wp2_with (first | ((with_reducible refine gate_callee (f := 96) rfl ?_); refine goesL_ (some 8) rfl rfl Tryz.func96 kz rfl #[.string a0, .string a1] rfl mz ?_; (with_reducible refine (stringslite_HasPrefix.calls a0 a1 false _ A3.out).mono ?_); rintro e w' ⟨rfl, ⟨nd, rfl⟩⟩; refine ⟨_, rfl, ?_⟩))
 go_ret2
 exact ⟨ez, dz⟩
def strings_CutPrefix.f (a0 : ByteArray) (a1 : ByteArray) : Option (ByteArray × Bool) := (stringslite_CutPrefix.f a0 a1).bind fun bt135 => (some (bt135.1, bt135.2))
set_option maxHeartbeats 8000000 in
set_option maxRecDepth 100000 in
theorem strings_CutPrefix.calls (a0 : ByteArray) (a1 : ByteArray) (r1 : ByteArray) (r2 : Bool) (w : World) (h : strings_CutPrefix.f a0 a1 = some (r1, r2)) :
  Calls Tryz.prog 88 #[.string a0, .string a1] w fun e w' => e = .returned (.tuple #[.string r1, .bool r2]) ∧ Drawn0 w w' := by
 have H : ((stringslite_CutPrefix.f a0 a1).bind fun bt135 => (some (bt135.1, bt135.2))) = some (r1, r2) := h
 clear h
 replace H := Option.bind_eq_some_iff.mp H
 obtain ⟨⟨t135, t136⟩, A30, H⟩ := H
 try dsimp only at H
 have A3 := Aside0.mk A30
 clear A30
 simp only [Option.some.injEq, Prod.mk.injEq] at H
 obtain ⟨rfl, rfl⟩ := H
 go_enter Tryz.func88, Tryz.ntmps88
 go_wp2_with (first | ((with_reducible refine gate_callee (f := 120) rfl ?_); refine goesL_ (some 8) rfl rfl Tryz.func120 kz rfl #[.string a0, .string a1] rfl mz ?_; (with_reducible refine (stringslite_CutPrefix.calls a0 a1 t135 t136 _ A3.out).mono ?_); rintro e w' ⟨rfl, ⟨nd, rfl⟩⟩; refine ⟨_, rfl, ?_⟩))
 go_ret2
 exact ⟨ez, dz⟩
def class_turned.f (k : Nat) (l0 : List (S105)) (a1 : ByteArray) : Option ((List (S36)) × Int) := (strings_CutPrefix.f a1 (⟨#[94]⟩ : ByteArray)).bind fun bt137 => ((class_find.f l0 bt137.1).bind fun bt139 => (if bt139.2 = 0 then (if bt137.2 = true then ((ranges_Not.f k bt139.1).bind fun t143 => (some (t143, bt139.2))) else (some (bt139.1, bt139.2))) else (some (bt139.1, bt139.2))))
theorem class_turned.mono : ∀ a0 a1 k, LeO (class_turned.f k a0 a1) (class_turned.f (k + 1) a0 a1) := by
 intro a0 a1 k
 unfold class_turned.f
 repeat' first
   | (with_reducible exact ranges_Not.mono _ _)
   | (with_reducible exact LeO.refl _)
   | (with_reducible exact LeO.none _)
   | (with_reducible refine LeO.ite ?_ ?_)
   | (with_reducible refine LeO.bind ?_ (fun _ => ?_))
   | exact ranges_Not.mono _ _
   | exact LeO.none _
   | refine LeO.ite ?_ ?_
   | refine LeO.bind ?_ (fun _ => ?_)
set_option maxHeartbeats 8000000 in
set_option maxRecDepth 100000 in
theorem class_turned.calls (k : Nat) (A0 : Option Addr) (c0 : Nat) (l0 : List (S105)) (a1 : ByteArray) (r1 : List (S36)) (r2 : Int) (w : World) (hr0 : Kd.C k105 w A0 l0.length l0) (hc0 : l0.length ≤ c0) (h : class_turned.f k l0 a1 = some (r1, r2)) :
  Calls Tryz.prog 58 #[.slice A0 l0.length c0, .string a1] w fun e w' => ∃ v0_ : Value, e = .returned (.tuple #[v0_, .int .i64 r2]) ∧ Kd.R k36 36 w' w.heap.size (fun _ => True) v0_ r1 ∧ Below w.heap.size w w' := by
 have HR0 := Aside0.mk hr0
 have HC0 := Aside0.mk hc0
 clear hr0 hc0
 have HB := Aside0.mk (Below.refl w.heap.size w)
 have H : ((strings_CutPrefix.f a1 (⟨#[94]⟩ : ByteArray)).bind fun bt137 => ((class_find.f l0 bt137.1).bind fun bt139 => (if bt139.2 = 0 then (if bt137.2 = true then ((ranges_Not.f k bt139.1).bind fun t143 => (some (t143, bt139.2))) else (some (bt139.1, bt139.2))) else (some (bt139.1, bt139.2))))) = some (r1, r2) := h
 clear h
 replace H := Option.bind_eq_some_iff.mp H
 obtain ⟨⟨t137, t138⟩, A30, H⟩ := H
 try dsimp only at H
 have A3 := Aside0.mk A30
 clear A30
 replace H := Option.bind_eq_some_iff.mp H
 obtain ⟨⟨t139, t140⟩, A40, H⟩ := H
 try dsimp only at H
 have A4 := Aside0.mk A40
 clear A40
 by_cases c5 : t140 = 0
 ·rw [if_pos c5] at H
  have c5b0 := beq_iff_eq.mpr c5
  have c5b1 := bne_eq_false_iff_eq.mpr c5
  clear c5
  by_cases c6 : t138 = true
  ·subst c6
   rw [if_pos rfl] at H
   replace H := Option.bind_eq_some_iff.mp H
   obtain ⟨t143, A70, H⟩ := H
   try dsimp only at H
   have A7 := Aside0.mk A70
   clear A70
   simp only [Option.some.injEq, Prod.mk.injEq] at H
   obtain ⟨rfl, rfl⟩ := H
   go_enter Tryz.func58, Tryz.ntmps58
   go_wp2_with (first | ((with_reducible refine gate_callee (f := 88) rfl ?_); refine goesL_ (some 12) rfl rfl Tryz.func88 kz rfl #[.string a1, .string (⟨#[94]⟩ : ByteArray)] rfl mz ?_; (with_reducible refine (strings_CutPrefix.calls a1 (⟨#[94]⟩ : ByteArray) t137 true _ A3.out).mono ?_); rintro e w' ⟨rfl, ⟨nd, rfl⟩⟩; refine ⟨_, rfl, ?_⟩) | ((with_reducible refine gate_callee (f := 56) rfl ?_); refine goesL_ (some 18) rfl rfl Tryz.func56 kz rfl #[.slice A0 l0.length c0, .string t137] rfl mz ?_; (with_reducible refine (class_find.calls _ _ l0 t137 t139 t140 _ ?side1 ?side2 A4.out).mono ?_); (case side1 => repeat (first | exact HR0.out | (with_reducible refine Kd.C_alloc ?_ _) | (with_reducible refine Kd.C_drewN ?_ _) | (with_reducible refine Kd.C_drew ?_))); (case side2 => exact HC0.out); rintro e w8 ⟨v141, rfl, ho0, hb⟩; refine ⟨_, rfl, ?_⟩; have HO142 := Aside0.mk (Kd.R_lower ho0 (below_size bz)); replace HB := hz hb; (try clear hb); (try clear ho0); obtain ⟨Ao9, co9, eo9⟩ := Kd.R_slice HO142.out; subst eo9) | ((with_reducible refine gate_callee (f := 19) rfl ?_); refine goesL_ (some 27) rfl rfl Tryz.func19 kz rfl #[.slice Ao9 t139.length co9] rfl mz ?_; (with_reducible refine (ranges_Not.calls k _ _ t139 t143 _ ?side1 ?side2 A7.out).mono ?_); (case side1 => exact cz (Kd.R_reads' HO142.out).2.2); (case side2 => exact (Kd.R_reads' HO142.out).2.1); rintro e w10 ⟨v144, rfl, ho0, hb⟩; refine ⟨_, rfl, ?_⟩; have HO145 := Aside0.mk (Kd.R_lower (Kd.R_new' ho0 (Kd.R_lt (rz HO142.out))) (below_size bz)); replace HO142 := Aside0.mk (Kd.R_elder' (rz HO142.out) (Kd.R_base ho0) hb); replace HB := hz hb; (try clear hb); (try clear ho0)))
   go_ret2
   exact ⟨_, fz, rz (R_all HO145.out), bz⟩
  replace c6 := Bool.eq_false_iff.mpr c6
  subst c6
  rw [if_neg (show ¬ (false = true) by decide)] at H
  simp only [Option.some.injEq, Prod.mk.injEq] at H
  obtain ⟨rfl, rfl⟩ := H
  go_enter Tryz.func58, Tryz.ntmps58
  go_wp2_with (first | ((with_reducible refine gate_callee (f := 88) rfl ?_); refine goesL_ (some 12) rfl rfl Tryz.func88 kz rfl #[.string a1, .string (⟨#[94]⟩ : ByteArray)] rfl mz ?_; (with_reducible refine (strings_CutPrefix.calls a1 (⟨#[94]⟩ : ByteArray) t137 false _ A3.out).mono ?_); rintro e w' ⟨rfl, ⟨nd, rfl⟩⟩; refine ⟨_, rfl, ?_⟩) | ((with_reducible refine gate_callee (f := 56) rfl ?_); refine goesL_ (some 18) rfl rfl Tryz.func56 kz rfl #[.slice A0 l0.length c0, .string t137] rfl mz ?_; (with_reducible refine (class_find.calls _ _ l0 t137 t139 t140 _ ?side1 ?side2 A4.out).mono ?_); (case side1 => repeat (first | exact HR0.out | (with_reducible refine Kd.C_alloc ?_ _) | (with_reducible refine Kd.C_drewN ?_ _) | (with_reducible refine Kd.C_drew ?_))); (case side2 => exact HC0.out); rintro e w11 ⟨v141, rfl, ho0, hb⟩; refine ⟨_, rfl, ?_⟩; have HO142 := Aside0.mk (Kd.R_lower ho0 (below_size bz)); replace HB := hz hb; (try clear hb); (try clear ho0)))
  go_ret2
  exact ⟨_, fz, rz HO142.out, bz⟩
 rw [if_neg c5] at H
 have c5b0 := beq_eq_false_iff_ne.mpr c5
 have c5b1 := bne_iff_ne.mpr c5
 simp only [Option.some.injEq, Prod.mk.injEq] at H
 obtain ⟨rfl, rfl⟩ := H
 go_enter Tryz.func58, Tryz.ntmps58
 go_wp2_with (first | ((with_reducible refine gate_callee (f := 88) rfl ?_); refine goesL_ (some 12) rfl rfl Tryz.func88 kz rfl #[.string a1, .string (⟨#[94]⟩ : ByteArray)] rfl mz ?_; (with_reducible refine (strings_CutPrefix.calls a1 (⟨#[94]⟩ : ByteArray) t137 t138 _ A3.out).mono ?_); rintro e w' ⟨rfl, ⟨nd, rfl⟩⟩; refine ⟨_, rfl, ?_⟩) | ((with_reducible refine gate_callee (f := 56) rfl ?_); refine goesL_ (some 18) rfl rfl Tryz.func56 kz rfl #[.slice A0 l0.length c0, .string t137] rfl mz ?_; (with_reducible refine (class_find.calls _ _ l0 t137 t139 t140 _ ?side1 ?side2 A4.out).mono ?_); (case side1 => repeat (first | exact HR0.out | (with_reducible refine Kd.C_alloc ?_ _) | (with_reducible refine Kd.C_drewN ?_ _) | (with_reducible refine Kd.C_drew ?_))); (case side2 => exact HC0.out); rintro e w12 ⟨v141, rfl, ho0, hb⟩; refine ⟨_, rfl, ?_⟩; have HO142 := Aside0.mk (Kd.R_lower ho0 (below_size bz)); replace HB := hz hb; (try clear hb); (try clear ho0)))
 go_ret2
 exact ⟨_, fz, rz HO142.out, bz⟩
mutual
def class_Letter.j0 : Nat → Int → Bool → Option ((List (S36)) × Int)
 | 0, _, _ => none
 | k + 1, x0, x4 => if x4 = true then ((class_letters.f).bind fun t146 => ((class_find.f t146 (strOfNums (([x0] : List Int)))).bind fun bt152 => (some (bt152.1, bt152.2)))) else (if x0 ≥ 65 then (class_Letter.j1 k x0 (decide (x0 ≤ 90))) else (class_Letter.j1 k x0 false))
def class_Letter.j1 : Nat → Int → Bool → Option ((List (S36)) × Int)
 | 0, _, _ => none
 | k + 1, x0, x18 => if x18 = true then ((class_letters.f).bind fun t156 => ((some (([(((x0 - 65) % 256) + 97) % 256] : List Int) : List Int)).bind fun y159 => (if 1 + (strOfNums y159).size ≤ 9223372036854775807 then ((class_turned.f k t156 ((⟨#[94]⟩ : ByteArray) ++ (strOfNums y159))).bind fun bt162 => (some (bt162.1, bt162.2))) else (none)))) else (some (([] : List (S36)), 70))
end
def class_Letter.f (k : Nat) (a0 : Int) : Option ((List (S36)) × Int) := if a0 ≥ 97 then (class_Letter.j0 k a0 (decide (a0 ≤ 122))) else (class_Letter.j0 k a0 false)
theorem class_Letter.mono_l : ∀ k, (∀ y0 y1, LeO (class_Letter.j0 k y0 y1) (class_Letter.j0 (k + 1) y0 y1)) ∧ (∀ y0 y1, LeO (class_Letter.j1 k y0 y1) (class_Letter.j1 (k + 1) y0 y1))
 | 0 => ⟨fun _ _ r h => by simp [class_Letter.j0] at h, fun _ _ r h => by simp [class_Letter.j1] at h⟩
 | k + 1 => by
  obtain ⟨ih0, ih1⟩ := class_Letter.mono_l k
  refine ⟨?_, ?_⟩
  ·intro y0 y1
   unfold class_Letter.j0
   repeat' first
   | (with_reducible exact ih0 _ _)
   | (with_reducible exact ih1 _ _)
   | (with_reducible exact class_turned.mono _ _ _)
   | (with_reducible exact LeO.refl _)
   | (with_reducible exact LeO.none _)
   | (with_reducible refine LeO.ite ?_ ?_)
   | (with_reducible refine LeO.bind ?_ (fun _ => ?_))
   | exact ih0 _ _
   | exact ih1 _ _
   | exact class_turned.mono _ _ _
   | exact LeO.none _
   | refine LeO.ite ?_ ?_
   | refine LeO.bind ?_ (fun _ => ?_)
  intro y0 y1
  unfold class_Letter.j1
  repeat' first
  | (with_reducible exact ih0 _ _)
  | (with_reducible exact ih1 _ _)
  | (with_reducible exact class_turned.mono _ _ _)
  | (with_reducible exact LeO.refl _)
  | (with_reducible exact LeO.none _)
  | (with_reducible refine LeO.ite ?_ ?_)
  | (with_reducible refine LeO.bind ?_ (fun _ => ?_))
  | exact ih0 _ _
  | exact ih1 _ _
  | exact class_turned.mono _ _ _
  | exact LeO.none _
  | refine LeO.ite ?_ ?_
  | refine LeO.bind ?_ (fun _ => ?_)
theorem class_Letter.mono : ∀ a0 k, LeO (class_Letter.f k a0) (class_Letter.f (k + 1) a0) := by
 intro a0 k
 obtain ⟨ih0, ih1⟩ := class_Letter.mono_l k
 unfold class_Letter.f
 repeat' first
   | (with_reducible exact ih0 _ _)
   | (with_reducible exact ih1 _ _)
   | (with_reducible exact class_turned.mono _ _ _)
   | (with_reducible exact LeO.refl _)
   | (with_reducible exact LeO.none _)
   | (with_reducible refine LeO.ite ?_ ?_)
   | (with_reducible refine LeO.bind ?_ (fun _ => ?_))
   | exact ih0 _ _
   | exact ih1 _ _
   | exact class_turned.mono _ _ _
   | exact LeO.none _
   | refine LeO.ite ?_ ?_
   | refine LeO.bind ?_ (fun _ => ?_)
def class_Letter.T2 : Bool × List (List Nat × List Nat) := (true, [([], []), ([], []), ([1], [1]), ([2], [2]), ([0, 3, 0], [0, 3]), ([4], [4]), ([4], [4]), ([5, 4, 0, 1, 2, 3, 4, 5, 6], [5]), ([6, 7, 0, 1, 2, 3, 4, 5, 6, 7], [6])])
def class_Letter.B2 : List Nat := [0, 0, 2, 6, 15, 31, 31, 127, 255]
theorem class_Letter.tab2 : rtab .any (opsOf Tryz.f30 2) = class_Letter.T2 := by kernel_rfl
theorem class_Letter.bits2 : waitsOk class_Letter.T2.2 class_Letter.B2 = true := by kernel_rfl
def class_Letter.T4 : Bool × List (List Nat × List Nat) := (true, [([], []), ([], []), ([1], [1]), ([2], [2]), ([3], [3]), ([4], [4]), ([5], [5]), ([0, 6, 0], [0, 6]), ([7], [7]), ([7], [7]), ([8, 7, 0, 1, 2, 3, 4, 5, 6, 7, 8, 9], [8]), ([9, 10, 0, 1, 2, 3, 4, 5, 6, 7, 8, 9, 10], [9])])
def class_Letter.B4 : List Nat := [0, 0, 2, 6, 14, 30, 62, 127, 255, 255, 1023, 2047]
theorem class_Letter.tab4 : rtab .any (opsOf Tryz.f30 4) = class_Letter.T4 := by kernel_rfl
theorem class_Letter.bits4 : waitsOk class_Letter.T4.2 class_Letter.B4 = true := by kernel_rfl
set_option maxHeartbeats 8000000 in
set_option maxRecDepth 100000 in
theorem class_Letter.calls (k : Nat) (a0 : Int) (r1 : List (S36)) (r2 : Int) (w : World) (h : class_Letter.f k a0 = some (r1, r2)) :
  Calls Tryz.prog 30 #[.int .u8 a0] w fun e w' => ∃ v0_ : Value, e = .returned (.tuple #[v0_, .int .i64 r2]) ∧ Kd.R k36 36 w' w.heap.size (fun _ => True) v0_ r1 ∧ Below w.heap.size w w' := by
 have HB := Aside0.mk (Below.refl w.heap.size w)
 have H : (if a0 ≥ 97 then (class_Letter.j0 k a0 (decide (a0 ≤ 122))) else (class_Letter.j0 k a0 false)) = some (r1, r2) := h
 clear h
 have HC2 := Aside0.mk H
 clear H
 go_enter Tryz.func30, Tryz.ntmps30
 go_upto_region 1 with (fail)
 go_cut [4] (fun v4 wc => ∃ (kq : Nat) (x4_1 : Bool), v4 = .bool x4_1 ∧ Aside0 (class_Letter.j0 kq a0 x4_1 = some (r1, r2)) ∧ Aside0 (kq ≤ k) ∧ Aside0 (Below w.heap.size w wc))
 case first =>
  have H := HC2.out
  clear HC2
  by_cases c3 : a0 ≥ 97
  ·rw [if_pos c3] at H
   have c3b0 : decide (97 ≤ a0) = true := decide_eq_true c3
   clear c3
   (first | rw [c3b0] | (simp only [i64_w, i32_w]; rw [c3b0]) | skip)
   have H' := Aside0.mk H
   clear H
   go_wp2
   go_meet
   case rel => exact ⟨_, (decide (a0 ≤ 122)), ez, H', ⟨by first | omega | exact Nat.le_refl _⟩, ⟨bz⟩⟩
  rw [if_neg c3] at H
  have c3b0 : decide (97 ≤ a0) = false := decide_eq_false c3
  clear c3
  (first | rw [c3b0] | (simp only [i64_w, i32_w]; rw [c3b0]) | skip)
  have H' := Aside0.mk H
  clear H
  go_wp2
  go_meet
  case rel => exact ⟨_, (false), ez, H', ⟨by first | omega | exact Nat.le_refl _⟩, ⟨bz⟩⟩
 clear HC2
 try clear p2
 try clear c3
 try clear c3b0
 obtain ⟨kq, x4_1, rfl, HA, HJ1, HB⟩ := hcut
 cases kq with
 | zero => exact absurd HA.out (by simp [class_Letter.j0])
 | succ kj1 =>
  have H := HA.out
  clear HA
  simp only [class_Letter.j0] at H
  by_cases c4 : x4_1 = true
  ·subst c4
   rw [if_pos rfl] at H
   replace H := Option.bind_eq_some_iff.mp H
   obtain ⟨t146, A50, H⟩ := H
   try dsimp only at H
   have A5 := Aside0.mk A50
   clear A50
   obtain ⟨y149, hy149⟩ : ∃ y_ : List Int, y_ = (([a0] : List Int)) := ⟨_, rfl⟩
   replace H : ((class_find.f t146 (strOfNums y149)).bind fun bt152 => (some (bt152.1, bt152.2))) = some (r1, r2) := by first | (rw [hy149]; with_reducible exact H) | (have H2_ := (Option.bind_some _ _).symm.trans H; rw [hy149]; with_reducible exact H2_) | exact H
   have Ny149 := Aside0.mk hy149
   clear hy149
   replace H := Option.bind_eq_some_iff.mp H
   obtain ⟨⟨t152, t153⟩, A60, H⟩ := H
   try dsimp only at H
   have A6 := Aside0.mk A60
   clear A60
   simp only [Option.some.injEq, Prod.mk.injEq] at H
   obtain ⟨rfl, rfl⟩ := H
   try go_wp2
   have n0_ := Aside0.mk (below_drew1 HB.out)
   clear HB
   have HB := n0_
   clear n0_
   refine start_ (n := 9) (S := fun w' => True) (ds := []) #[false, false, false, false, false, false, false, false, false] kz rfl rfl trivial (fun hHeld => ?_); refine with_tabW class_Letter.tab2 class_Letter.bits2 (fun HT_ HW_ => ?_)
   generalize wc.drew = w7 at HB hHeld ⊢
   refine pure_ (i := 1) (N := some 12) (v := ?_) (a' := ?_) #[false, true, false, false, false, false, false, false, false] rfl rfl (any_of HT_.out kz) (fun _ _ _ h => h) (Or.inl ⟨by rfl, ?_⟩) ?_ ?_
   rotate_left
   ·intro w'
    go_simp
    with_reducible rfl
   rotate_left
   ·simp only [Act.put, List.setIfInBounds_toArray, List.set_cons_zero, List.set_cons_succ, i64_w, i32_w]
    rfl
   refine join_ (σ := Value × Value) 5 #[true, true, true, true, false, false, false, false, false] (fun s_ => [(11, s_.1), (13, s_.2), (14, .string (strOfNums y149))]) (fun s_ w' => (Kd.R k105 105 w' w.heap.size (fun _ => True) s_.1 t146) ∧ (Kd.R (Kd.int .u8) 5 w' w.heap.size (fun _ => True) s_.2 y149) ∧ (Below w.heap.size w w')) ?_ ?_
   rotate_left
   ·intro hCont
    refine two_ (i := 0) (j := 2) (Ni := some 11) (Nj := some 13) #[true, true, false, false, false, false, false, false, false] #[false, true, true, false, false, false, false, false, false] rfl rfl rfl rfl (two_of HT_.out kz) (by decide) (by decide) (fun K hK => ?_) (fun K hK => ?_)
    ·skip
     refine goes_ Tryz.func57 kz rfl #[] (by rfl) rfl rfl mz ?_
     with_reducible refine (class_letters.calls  t146 _ A5.out).mono ?_
     rintro e w8 ⟨v147, rfl, ho0, hb⟩
     refine ⟨_, rfl, ?_⟩
     have n0_ := Aside0.mk (Kd.R_lower ho0 (below_size bz))
     have n1_ := hz hb
     clear HB
     have HO148 := n0_
     have HB := n1_
     clear n0_ n1_
     (try clear hb)
     (try clear hb2)
     (try clear hk)
     (try clear hi)
     (try clear ho0)
     refine hK.out _ _ trivial (fun hHeld => ?_)
     clear hK K
     refine norm_ (a' := ?_) ?_ ?_
     rotate_left
     ·show Act.put _ (some 11) _ = _
      simp only [Act.put, List.setIfInBounds_toArray, List.set_cons_zero, List.set_cons_succ, i64_w, i32_w]
      rfl
     refine one_ (i := 2) (N := some 13) #[true, true, true, false, false, false, false, false, false] rfl rfl (one_of HT_.out kz) (by decide) (fun K hK => ?_)
     refine Kd.R_lit_step (Kd.int .u8) _ 5 ?hg (N := 13) ?hd (xs := ([a0] : List Int)) (inner := [.int .u8 a0]) (ok := fun _ => True) (okp := fun _ => True) ?hr ?hp (fun _ hk => hk) trivial (Below.refl _ _) (Nat.le_refl _) (by simp) ?_; (case hd => rfl); (case hg => rfl); (case hr => first | (go_simp; done) | (go_simp; rfl)); (case hp => exact (Reps.one rfl (Reps.none _ _)))
     intro v150 w9 ho10 hb hg_ hnew_
     clear hg_ hnew_
     (first | rw [← Ny149.out] at ho10 | (simp only [Int.reduceToNat] at ho10; rw [← Ny149.out] at ho10))
     have n0_ := Aside0.mk (Kd.R_below (rz HO148.out) hb)
     have n1_ := Aside0.mk (Kd.R_lower ho10 (below_size bz))
     have n2_ := hz hb
     clear HO148
     clear HB
     have HO148 := n0_
     have HO151 := n1_
     have HB := n2_
     clear n0_ n1_ n2_
     clear hb ho10
     refine hK.out _ _ trivial (fun hHeld => ?_)
     clear hK K
     refine norm_ (a' := ?_) ?_ ?_
     rotate_left
     ·show Act.put _ (some 13) _ = _
      simp only [Act.put, List.setIfInBounds_toArray, List.set_cons_zero, List.set_cons_succ, i64_w, i32_w]
      rfl
     refine one_ (i := 3) (N := some 14) #[true, true, true, true, false, false, false, false, false] rfl rfl (one_of HT_.out kz) (by decide) (fun K hK => ?_)
     have hcv11 := own_string (P := Tryz.prog) Tryz.underlying75 Tryz.underlying5 Tryz.underlying9 (Kd.own_of_R HO151.out)
     refine value_ (w1 := ?_) (v := ?_) (by rfl) rfl ?_ ?_
     rotate_left 2
     ·go_simp
      constructor
      ·rfl
      rfl
     clear hcv11
     refine hK.out _ _ trivial (fun hHeld => ?_)
     clear hK K
     refine norm_ (a' := ?_) ?_ ?_
     rotate_left
     ·show Act.put _ (some 14) _ = _
      simp only [Act.put, List.setIfInBounds_toArray, List.set_cons_zero, List.set_cons_succ, i64_w, i32_w]
      rfl
     exact norm_ (by simp only [putAll, Act.put, List.setIfInBounds_toArray, List.set_cons_zero, List.set_cons_succ]) (hCont (v147, v150) _ ⟨(rz HO148.out), (rz HO151.out), bz⟩)
    skip
    refine Kd.R_lit_step (Kd.int .u8) _ 5 ?hg (N := 13) ?hd (xs := ([a0] : List Int)) (inner := [.int .u8 a0]) (ok := fun _ => True) (okp := fun _ => True) ?hr ?hp (fun _ hk => hk) trivial (Below.refl _ _) (Nat.le_refl _) (by simp) ?_; (case hd => rfl); (case hg => rfl); (case hr => first | (go_simp; done) | (go_simp; rfl)); (case hp => exact (Reps.one rfl (Reps.none _ _)))
    intro v150 w8 ho9 hb hg_ hnew_
    clear hg_ hnew_
    (first | rw [← Ny149.out] at ho9 | (simp only [Int.reduceToNat] at ho9; rw [← Ny149.out] at ho9))
    have n0_ := Aside0.mk (Kd.R_lower ho9 (below_size bz))
    have n1_ := hz hb
    clear HB
    have HO151 := n0_
    have HB := n1_
    clear n0_ n1_
    clear hb ho9
    refine hK.out _ _ trivial (fun hHeld => ?_)
    clear hK K
    refine norm_ (a' := ?_) ?_ ?_
    rotate_left
    ·show Act.put _ (some 13) _ = _
     simp only [Act.put, List.setIfInBounds_toArray, List.set_cons_zero, List.set_cons_succ, i64_w, i32_w]
     rfl
    refine two_ (i := 0) (j := 3) (Ni := some 11) (Nj := some 14) #[true, true, true, false, false, false, false, false, false] #[false, true, true, true, false, false, false, false, false] rfl rfl rfl rfl (two_of HT_.out kz) (by decide) (by decide) (fun K hK => ?_) (fun K hK => ?_)
    ·skip
     refine goes_ Tryz.func57 kz rfl #[] (by rfl) rfl rfl mz ?_
     with_reducible refine (class_letters.calls  t146 _ A5.out).mono ?_
     rintro e w10 ⟨v147, rfl, ho0, hb⟩
     refine ⟨_, rfl, ?_⟩
     have n0_ := Aside0.mk (Kd.R_below (rz HO151.out) hb)
     have n1_ := Aside0.mk (Kd.R_lower ho0 (below_size bz))
     have n2_ := hz hb
     clear HO151
     clear HB
     have HO151 := n0_
     have HO148 := n1_
     have HB := n2_
     clear n0_ n1_ n2_
     (try clear hb)
     (try clear hb2)
     (try clear hk)
     (try clear hi)
     (try clear ho0)
     refine hK.out _ _ trivial (fun hHeld => ?_)
     clear hK K
     refine norm_ (a' := ?_) ?_ ?_
     rotate_left
     ·show Act.put _ (some 11) _ = _
      simp only [Act.put, List.setIfInBounds_toArray, List.set_cons_zero, List.set_cons_succ, i64_w, i32_w]
      rfl
     refine one_ (i := 3) (N := some 14) #[true, true, true, true, false, false, false, false, false] rfl rfl (one_of HT_.out kz) (by decide) (fun K hK => ?_)
     have hcv11 := own_string (P := Tryz.prog) Tryz.underlying75 Tryz.underlying5 Tryz.underlying9 (Kd.own_of_R HO151.out)
     refine value_ (w1 := ?_) (v := ?_) (by rfl) rfl ?_ ?_
     rotate_left 2
     ·go_simp
      constructor
      ·rfl
      rfl
     clear hcv11
     refine hK.out _ _ trivial (fun hHeld => ?_)
     clear hK K
     refine norm_ (a' := ?_) ?_ ?_
     rotate_left
     ·show Act.put _ (some 14) _ = _
      simp only [Act.put, List.setIfInBounds_toArray, List.set_cons_zero, List.set_cons_succ, i64_w, i32_w]
      rfl
     exact norm_ (by simp only [putAll, Act.put, List.setIfInBounds_toArray, List.set_cons_zero, List.set_cons_succ]) (hCont (v147, v150) _ ⟨(rz HO148.out), (rz HO151.out), bz⟩)
    skip
    have hcv10 := own_string (P := Tryz.prog) Tryz.underlying75 Tryz.underlying5 Tryz.underlying9 (Kd.own_of_R HO151.out)
    refine value_ (w1 := ?_) (v := ?_) (by rfl) rfl ?_ ?_
    rotate_left 2
    ·go_simp
     constructor
     ·rfl
     rfl
    clear hcv10
    refine hK.out _ _ trivial (fun hHeld => ?_)
    clear hK K
    refine norm_ (a' := ?_) ?_ ?_
    rotate_left
    ·show Act.put _ (some 14) _ = _
     simp only [Act.put, List.setIfInBounds_toArray, List.set_cons_zero, List.set_cons_succ, i64_w, i32_w]
     rfl
    refine one_ (i := 0) (N := some 11) #[true, true, true, true, false, false, false, false, false] rfl rfl (one_of HT_.out kz) (by decide) (fun K hK => ?_)
    refine goes_ Tryz.func57 kz rfl #[] (by rfl) rfl rfl mz ?_
    with_reducible refine (class_letters.calls  t146 _ A5.out).mono ?_
    rintro e w11 ⟨v147, rfl, ho0, hb⟩
    refine ⟨_, rfl, ?_⟩
    have n0_ := Aside0.mk (Kd.R_below (rz HO151.out) hb)
    have n1_ := Aside0.mk (Kd.R_lower ho0 (below_size bz))
    have n2_ := hz hb
    clear HO151
    clear HB
    have HO151 := n0_
    have HO148 := n1_
    have HB := n2_
    clear n0_ n1_ n2_
    (try clear hb)
    (try clear hb2)
    (try clear hk)
    (try clear hi)
    (try clear ho0)
    refine hK.out _ _ trivial (fun hHeld => ?_)
    clear hK K
    refine norm_ (a' := ?_) ?_ ?_
    rotate_left
    ·show Act.put _ (some 11) _ = _
     simp only [Act.put, List.setIfInBounds_toArray, List.set_cons_zero, List.set_cons_succ, i64_w, i32_w]
     rfl
    exact norm_ (by simp only [putAll, Act.put, List.setIfInBounds_toArray, List.set_cons_zero, List.set_cons_succ]) (hCont (v147, v150) _ ⟨(rz HO148.out), (rz HO151.out), bz⟩)
   rintro ⟨v147, v150⟩ w12 ⟨h0_, h1_, h2_⟩
   have n0_ : Aside0 (Kd.R k105 105 w12 w.heap.size (fun _ => True) v147 t146) := ⟨h0_⟩
   have n1_ : Aside0 (Kd.R (Kd.int .u8) 5 w12 w.heap.size (fun _ => True) v150 y149) := ⟨h1_⟩
   have n2_ : Aside0 (Below w.heap.size w w12) := ⟨h2_⟩
   clear HB
   clear h0_ h1_ h2_
   have HO148 := n0_
   have HO151 := n1_
   have HB := n2_
   clear n0_ n1_ n2_
   have hHeld := trivial
   obtain ⟨Ao13, co13, eo13⟩ := Kd.R_slice HO148.out
   (first | subst eo13 | (injection eo13 with f1_ f2_ f3_; have f4_ := f1_.symm; have f5_ := f3_.symm; clear f1_ f2_ f3_; subst f4_; subst f5_))
   refine norm_ (a' := ?_) ?_ ?_
   rotate_left
   ·simp only [putAll, Act.put, List.setIfInBounds_toArray, List.set_cons_zero, List.set_cons_succ]
    rfl
   refine one_ (i := 4) (N := some 15) #[true, true, true, true, true, false, false, false, false] rfl rfl (one_of HT_.out kz) (by decide) (fun K hK => ?_)
   refine goes_ Tryz.func56 kz rfl #[.slice Ao13 t146.length co13, .string (strOfNums y149)] (by rfl) rfl rfl mz ?_
   with_reducible refine (class_find.calls _ _ t146 (strOfNums y149) t152 t153 _ ?side1 ?side2 A6.out).mono ?_
   (case side1 => exact cz (Kd.R_reads' HO148.out).2.2)
   (case side2 => exact (Kd.R_reads' HO148.out).2.1)
   rintro e w14 ⟨v154, rfl, ho0, hb⟩
   refine ⟨_, rfl, ?_⟩
   have n0_ := Aside0.mk (Kd.R_below (rz HO148.out) hb)
   have n1_ := Aside0.mk (Kd.R_below (rz HO151.out) hb)
   have n2_ := Aside0.mk (Kd.R_lower ho0 (below_size bz))
   have n3_ := hz hb
   clear HO148
   clear HO151
   clear HB
   have HO148 := n0_
   have HO151 := n1_
   have HO155 := n2_
   have HB := n3_
   clear n0_ n1_ n2_ n3_
   (try clear hb)
   (try clear hb2)
   (try clear hk)
   (try clear hi)
   (try clear ho0)
   refine hK.out _ _ trivial (fun hHeld => ?_)
   clear hK K
   refine norm_ (a' := ?_) ?_ ?_
   rotate_left
   ·show Act.put _ (some 15) _ = _
    simp only [Act.put, List.setIfInBounds_toArray, List.set_cons_zero, List.set_cons_succ, i64_w, i32_w]
    rfl
   refine pure_ (i := 5) (N := some 16) (v := ?_) (a' := ?_) #[true, true, true, true, true, true, false, false, false] rfl rfl (any_of HT_.out kz) (fun _ _ _ h => h) (Or.inl ⟨by rfl, ?_⟩) ?_ ?_
   rotate_left
   ·intro w'
    go_simp
    with_reducible rfl
   rotate_left
   ·simp only [Act.put, List.setIfInBounds_toArray, List.set_cons_zero, List.set_cons_succ, i64_w, i32_w]
    rfl
   refine pure_ (i := 6) (N := some 17) (v := ?_) (a' := ?_) #[true, true, true, true, true, true, true, false, false] rfl rfl (any_of HT_.out kz) (fun _ _ _ h => h) (Or.inl ⟨by rfl, ?_⟩) ?_ ?_
   rotate_left
   ·intro w'
    go_simp
    with_reducible rfl
   rotate_left
   ·simp only [Act.put, List.setIfInBounds_toArray, List.set_cons_zero, List.set_cons_succ, i64_w, i32_w]
    rfl
   refine pure_ (i := 7) (N := some 2) (v := ?_) (a' := ?_) #[true, true, true, true, true, true, true, true, false] rfl rfl (any_of HT_.out kz) (fun _ _ _ h => h) (Or.inl ⟨by rfl, ?_⟩) ?_ ?_
   rotate_left
   ·intro w'
    go_simp
    with_reducible rfl
   rotate_left
   ·simp only [Act.put, List.setIfInBounds_toArray, List.set_cons_zero, List.set_cons_succ, i64_w, i32_w]
    rfl
   refine pure_ (i := 8) (N := some 3) (v := ?_) (a' := ?_) #[true, true, true, true, true, true, true, true, true] rfl rfl (any_of HT_.out kz) (fun _ _ _ h => h) (Or.inl ⟨by rfl, ?_⟩) ?_ ?_
   rotate_left
   ·intro w'
    go_simp
    with_reducible rfl
   rotate_left
   ·simp only [Act.put, List.setIfInBounds_toArray, List.set_cons_zero, List.set_cons_succ, i64_w, i32_w]
    rfl
   refine done_ (done_of HT_.out kz) ?_
   try go_wp2
   go_ret2
   exact ⟨_, fz, rz HO155.out, bz⟩
  replace c4 := Bool.eq_false_iff.mpr c4
  subst c4
  rw [if_neg (show ¬ (false = true) by decide)] at H
  have HC15 := Aside0.mk H
  clear H
  go_upto_region 3 with (fail)
  go_cut [18] (fun v18 wc => ∃ (kq : Nat) (x18_14 : Bool), v18 = .bool x18_14 ∧ Aside0 (class_Letter.j1 kq a0 x18_14 = some (r1, r2)) ∧ Aside0 (kq ≤ kj1) ∧ Aside0 (Below w.heap.size w wc))
  case first =>
   have H := HC15.out
   clear HC15
   by_cases c16 : a0 ≥ 65
   ·rw [if_pos c16] at H
    have c16b0 : decide (65 ≤ a0) = true := decide_eq_true c16
    clear c16
    (first | rw [c16b0] | (simp only [i64_w, i32_w]; rw [c16b0]) | skip)
    have H' := Aside0.mk H
    clear H
    go_wp2
    go_meet
    case rel => exact ⟨_, (decide (a0 ≤ 90)), ez, H', ⟨by have := HJ1.out; first | omega | exact Nat.le_refl _⟩, ⟨bz⟩⟩
   rw [if_neg c16] at H
   have c16b0 : decide (65 ≤ a0) = false := decide_eq_false c16
   clear c16
   (first | rw [c16b0] | (simp only [i64_w, i32_w]; rw [c16b0]) | skip)
   have H' := Aside0.mk H
   clear H
   go_wp2
   go_meet
   case rel => exact ⟨_, (false), ez, H', ⟨by have := HJ1.out; first | omega | exact Nat.le_refl _⟩, ⟨bz⟩⟩
  clear HC15
  try clear c1
  try clear hcv1
  try clear p2
  try clear c3
  try clear c3b0
  try clear c4
  try clear c5
  try clear hcv10
  try clear hcv11
  try clear c16
  try clear c16b0
  try clear p2
  obtain ⟨kq, x18_14, rfl, HA, HJ14, HB⟩ := hcut
  cases kq with
  | zero => exact absurd HA.out (by simp [class_Letter.j1])
  | succ kj14 =>
   have H := HA.out
   clear HA
   simp only [class_Letter.j1] at H
   by_cases c17 : x18_14 = true
   ·subst c17
    rw [if_pos rfl] at H
    replace H := Option.bind_eq_some_iff.mp H
    obtain ⟨t156, A180, H⟩ := H
    try dsimp only at H
    have A18 := Aside0.mk A180
    clear A180
    obtain ⟨y159, hy159⟩ : ∃ y_ : List Int, y_ = (([(((a0 - 65) % 256) + 97) % 256] : List Int)) := ⟨_, rfl⟩
    rw [← hy159] at H
    try rw [Option.bind_some] at H
    have Ny159 := Aside0.mk hy159
    clear hy159
    by_cases c19 : 1 + (strOfNums y159).size ≤ 9223372036854775807
    rotate_left
    ·exact nomatch (if_neg c19).symm.trans H
    rw [if_pos c19] at H
    have c19b0 := eq_true c19
    have c19b1 := decide_eq_true c19
    try have c19b2 : (9223372036854775807 < 1 + (strOfNums y159).size) = False := eq_false (Nat.not_lt.2 c19)
    replace H := Option.bind_eq_some_iff.mp H
    obtain ⟨⟨t162, t163⟩, A200, H⟩ := H
    try dsimp only at H
    have A20 := Aside0.mk A200
    clear A200
    simp only [Option.some.injEq, Prod.mk.injEq] at H
    obtain ⟨rfl, rfl⟩ := H
    try go_wp2
    have n0_ := Aside0.mk (below_drew1 HB.out)
    clear HB
    have HB := n0_
    clear n0_
    refine start_ (n := 12) (S := fun w' => True) (ds := []) #[false, false, false, false, false, false, false, false, false, false, false, false] kz rfl rfl trivial (fun hHeld => ?_); refine with_tabW class_Letter.tab4 class_Letter.bits4 (fun HT_ HW_ => ?_)
    generalize wc.drew = w21 at HB hHeld ⊢
    refine pure_ (i := 1) (N := some 26) (v := ?_) (a' := ?_) #[false, true, false, false, false, false, false, false, false, false, false, false] rfl rfl (any_of HT_.out kz) (fun _ _ _ h => h) (Or.inl ⟨by rfl, ?_⟩) ?_ ?_
    rotate_left
    ·intro w'
     go_simp
     with_reducible rfl
    rotate_left
    ·simp only [Act.put, List.setIfInBounds_toArray, List.set_cons_zero, List.set_cons_succ, i64_w, i32_w]
     rfl
    refine pure_ (i := 2) (N := some 27) (v := ?_) (a' := ?_) #[false, true, true, false, false, false, false, false, false, false, false, false] rfl rfl (any_of HT_.out kz) (fun _ _ _ h => h) (Or.inl ⟨by rfl, ?_⟩) ?_ ?_
    rotate_left
    ·intro w'
     go_simp
     with_reducible rfl
    rotate_left
    ·simp only [Act.put, List.setIfInBounds_toArray, List.set_cons_zero, List.set_cons_succ, i64_w, i32_w]
     rfl
    refine pure_ (i := 3) (N := some 28) (v := ?_) (a' := ?_) #[false, true, true, true, false, false, false, false, false, false, false, false] rfl rfl (any_of HT_.out kz) (fun _ _ _ h => h) (Or.inl ⟨by rfl, ?_⟩) ?_ ?_
    rotate_left
    ·intro w'
     go_simp
     with_reducible rfl
    rotate_left
    ·simp only [Act.put, List.setIfInBounds_toArray, List.set_cons_zero, List.set_cons_succ, i64_w, i32_w]
     rfl
    refine join_ (σ := Value × Value) 5 #[true, true, true, true, true, true, true, false, false, false, false, false] (fun s_ => [(25, s_.1), (29, s_.2), (30, .string (strOfNums y159)), (31, .string ((⟨#[94]⟩ : ByteArray) ++ (strOfNums y159)))]) (fun s_ w' => (Kd.R k105 105 w' w.heap.size (fun _ => True) s_.1 t156) ∧ (Kd.R (Kd.int .u8) 5 w' w.heap.size (fun _ => True) s_.2 y159) ∧ (Below w.heap.size w w')) ?_ ?_
    rotate_left
    ·intro hCont
     refine two_ (i := 0) (j := 4) (Ni := some 25) (Nj := some 29) #[true, true, true, true, false, false, false, false, false, false, false, false] #[false, true, true, true, true, false, false, false, false, false, false, false] rfl rfl rfl rfl (two_of HT_.out kz) (by decide) (by decide) (fun K hK => ?_) (fun K hK => ?_)
     ·skip
      refine goes_ Tryz.func57 kz rfl #[] (by rfl) rfl rfl mz ?_
      with_reducible refine (class_letters.calls  t156 _ A18.out).mono ?_
      rintro e w22 ⟨v157, rfl, ho0, hb⟩
      refine ⟨_, rfl, ?_⟩
      have n0_ := Aside0.mk (Kd.R_lower ho0 (below_size bz))
      have n1_ := hz hb
      clear HB
      have HO158 := n0_
      have HB := n1_
      clear n0_ n1_
      (try clear hb)
      (try clear hb2)
      (try clear hk)
      (try clear hi)
      (try clear ho0)
      refine hK.out _ _ trivial (fun hHeld => ?_)
      clear hK K
      refine norm_ (a' := ?_) ?_ ?_
      rotate_left
      ·show Act.put _ (some 25) _ = _
       simp only [Act.put, List.setIfInBounds_toArray, List.set_cons_zero, List.set_cons_succ, i64_w, i32_w]
       rfl
      refine one_ (i := 4) (N := some 29) #[true, true, true, true, true, false, false, false, false, false, false, false] rfl rfl (one_of HT_.out kz) (by decide) (fun K hK => ?_)
      refine Kd.R_lit_step (Kd.int .u8) _ 5 ?hg (N := 29) ?hd (xs := ([(((a0 - 65) % 256) + 97) % 256] : List Int)) (inner := [.int .u8 ((((a0 - 65) % 256) + 97) % 256)]) (ok := fun _ => True) (okp := fun _ => True) ?hr ?hp (fun _ hk => hk) trivial (Below.refl _ _) (Nat.le_refl _) (by simp) ?_; (case hd => rfl); (case hg => rfl); (case hr => first | (go_simp; done) | (go_simp; (have hw_ : IntKind.u8.wrap (IntKind.u8.wrap (a0 - 65) + 97) = (a0 - 65 + 97) % 256 := (show ((a0 - 65) % 256 + 97) % 256 = (a0 - 65 + 97) % 256 from by omega)); rw [hw_]) | (go_simp; rfl)); (case hp => exact (Reps.one rfl (Reps.none _ _)))
      intro v160 w23 ho24 hb hg_ hnew_
      clear hg_ hnew_
      (first | rw [← Ny159.out] at ho24 | (simp only [Int.reduceToNat] at ho24; rw [← Ny159.out] at ho24))
      have n0_ := Aside0.mk (Kd.R_below (rz HO158.out) hb)
      have n1_ := Aside0.mk (Kd.R_lower ho24 (below_size bz))
      have n2_ := hz hb
      clear HO158
      clear HB
      have HO158 := n0_
      have HO161 := n1_
      have HB := n2_
      clear n0_ n1_ n2_
      clear hb ho24
      refine hK.out _ _ trivial (fun hHeld => ?_)
      clear hK K
      refine norm_ (a' := ?_) ?_ ?_
      rotate_left
      ·show Act.put _ (some 29) _ = _
       simp only [Act.put, List.setIfInBounds_toArray, List.set_cons_zero, List.set_cons_succ, i64_w, i32_w]
       rfl
      refine one_ (i := 5) (N := some 30) #[true, true, true, true, true, true, false, false, false, false, false, false] rfl rfl (one_of HT_.out kz) (by decide) (fun K hK => ?_)
      have hcv25 := own_string (P := Tryz.prog) Tryz.underlying75 Tryz.underlying5 Tryz.underlying9 (Kd.own_of_R HO161.out)
      refine value_ (w1 := ?_) (v := ?_) (by rfl) rfl ?_ ?_
      rotate_left 2
      ·go_simp
       constructor
       ·rfl
       rfl
      clear hcv25
      refine hK.out _ _ trivial (fun hHeld => ?_)
      clear hK K
      refine norm_ (a' := ?_) ?_ ?_
      rotate_left
      ·show Act.put _ (some 30) _ = _
       simp only [Act.put, List.setIfInBounds_toArray, List.set_cons_zero, List.set_cons_succ, i64_w, i32_w]
       rfl
      refine pure_ (i := 6) (N := some 31) (v := ?_) (a' := ?_) #[true, true, true, true, true, true, true, false, false, false, false, false] rfl rfl (any_of HT_.out kz) (fun _ _ _ h => h) (Or.inl ⟨by rfl, ?_⟩) ?_ ?_
      rotate_left
      ·intro w'
       go_simp
       with_reducible rfl
      rotate_left
      ·simp only [Act.put, List.setIfInBounds_toArray, List.set_cons_zero, List.set_cons_succ, i64_w, i32_w]
       rfl
      exact norm_ (by simp only [putAll, Act.put, List.setIfInBounds_toArray, List.set_cons_zero, List.set_cons_succ]) (hCont (v157, v160) _ ⟨(rz HO158.out), (rz HO161.out), bz⟩)
     skip
     refine Kd.R_lit_step (Kd.int .u8) _ 5 ?hg (N := 29) ?hd (xs := ([(((a0 - 65) % 256) + 97) % 256] : List Int)) (inner := [.int .u8 ((((a0 - 65) % 256) + 97) % 256)]) (ok := fun _ => True) (okp := fun _ => True) ?hr ?hp (fun _ hk => hk) trivial (Below.refl _ _) (Nat.le_refl _) (by simp) ?_; (case hd => rfl); (case hg => rfl); (case hr => first | (go_simp; done) | (go_simp; (have hw_ : IntKind.u8.wrap (IntKind.u8.wrap (a0 - 65) + 97) = (a0 - 65 + 97) % 256 := (show ((a0 - 65) % 256 + 97) % 256 = (a0 - 65 + 97) % 256 from by omega)); rw [hw_]) | (go_simp; rfl)); (case hp => exact (Reps.one rfl (Reps.none _ _)))
     intro v160 w22 ho23 hb hg_ hnew_
     clear hg_ hnew_
     (first | rw [← Ny159.out] at ho23 | (simp only [Int.reduceToNat] at ho23; rw [← Ny159.out] at ho23))
     have n0_ := Aside0.mk (Kd.R_lower ho23 (below_size bz))
     have n1_ := hz hb
     clear HB
     have HO161 := n0_
     have HB := n1_
     clear n0_ n1_
     clear hb ho23
     refine hK.out _ _ trivial (fun hHeld => ?_)
     clear hK K
     refine norm_ (a' := ?_) ?_ ?_
     rotate_left
     ·show Act.put _ (some 29) _ = _
      simp only [Act.put, List.setIfInBounds_toArray, List.set_cons_zero, List.set_cons_succ, i64_w, i32_w]
      rfl
     refine two_ (i := 0) (j := 5) (Ni := some 25) (Nj := some 30) #[true, true, true, true, true, false, false, false, false, false, false, false] #[false, true, true, true, true, true, false, false, false, false, false, false] rfl rfl rfl rfl (two_of HT_.out kz) (by decide) (by decide) (fun K hK => ?_) (fun K hK => ?_)
     ·skip
      refine goes_ Tryz.func57 kz rfl #[] (by rfl) rfl rfl mz ?_
      with_reducible refine (class_letters.calls  t156 _ A18.out).mono ?_
      rintro e w24 ⟨v157, rfl, ho0, hb⟩
      refine ⟨_, rfl, ?_⟩
      have n0_ := Aside0.mk (Kd.R_below (rz HO161.out) hb)
      have n1_ := Aside0.mk (Kd.R_lower ho0 (below_size bz))
      have n2_ := hz hb
      clear HO161
      clear HB
      have HO161 := n0_
      have HO158 := n1_
      have HB := n2_
      clear n0_ n1_ n2_
      (try clear hb)
      (try clear hb2)
      (try clear hk)
      (try clear hi)
      (try clear ho0)
      refine hK.out _ _ trivial (fun hHeld => ?_)
      clear hK K
      refine norm_ (a' := ?_) ?_ ?_
      rotate_left
      ·show Act.put _ (some 25) _ = _
       simp only [Act.put, List.setIfInBounds_toArray, List.set_cons_zero, List.set_cons_succ, i64_w, i32_w]
       rfl
      refine one_ (i := 5) (N := some 30) #[true, true, true, true, true, true, false, false, false, false, false, false] rfl rfl (one_of HT_.out kz) (by decide) (fun K hK => ?_)
      have hcv25 := own_string (P := Tryz.prog) Tryz.underlying75 Tryz.underlying5 Tryz.underlying9 (Kd.own_of_R HO161.out)
      refine value_ (w1 := ?_) (v := ?_) (by rfl) rfl ?_ ?_
      rotate_left 2
      ·go_simp
       constructor
       ·rfl
       rfl
      clear hcv25
      refine hK.out _ _ trivial (fun hHeld => ?_)
      clear hK K
      refine norm_ (a' := ?_) ?_ ?_
      rotate_left
      ·show Act.put _ (some 30) _ = _
       simp only [Act.put, List.setIfInBounds_toArray, List.set_cons_zero, List.set_cons_succ, i64_w, i32_w]
       rfl
      refine pure_ (i := 6) (N := some 31) (v := ?_) (a' := ?_) #[true, true, true, true, true, true, true, false, false, false, false, false] rfl rfl (any_of HT_.out kz) (fun _ _ _ h => h) (Or.inl ⟨by rfl, ?_⟩) ?_ ?_
      rotate_left
      ·intro w'
       go_simp
       with_reducible rfl
      rotate_left
      ·simp only [Act.put, List.setIfInBounds_toArray, List.set_cons_zero, List.set_cons_succ, i64_w, i32_w]
       rfl
      exact norm_ (by simp only [putAll, Act.put, List.setIfInBounds_toArray, List.set_cons_zero, List.set_cons_succ]) (hCont (v157, v160) _ ⟨(rz HO158.out), (rz HO161.out), bz⟩)
     skip
     have hcv24 := own_string (P := Tryz.prog) Tryz.underlying75 Tryz.underlying5 Tryz.underlying9 (Kd.own_of_R HO161.out)
     refine value_ (w1 := ?_) (v := ?_) (by rfl) rfl ?_ ?_
     rotate_left 2
     ·go_simp
      constructor
      ·rfl
      rfl
     clear hcv24
     refine hK.out _ _ trivial (fun hHeld => ?_)
     clear hK K
     refine norm_ (a' := ?_) ?_ ?_
     rotate_left
     ·show Act.put _ (some 30) _ = _
      simp only [Act.put, List.setIfInBounds_toArray, List.set_cons_zero, List.set_cons_succ, i64_w, i32_w]
      rfl
     refine pure_ (i := 6) (N := some 31) (v := ?_) (a' := ?_) #[false, true, true, true, true, true, true, false, false, false, false, false] rfl rfl (any_of HT_.out kz) (fun _ _ _ h => h) (Or.inl ⟨by rfl, ?_⟩) ?_ ?_
     rotate_left
     ·intro w'
      go_simp
      with_reducible rfl
     rotate_left
     ·simp only [Act.put, List.setIfInBounds_toArray, List.set_cons_zero, List.set_cons_succ, i64_w, i32_w]
      rfl
     refine one_ (i := 0) (N := some 25) #[true, true, true, true, true, true, true, false, false, false, false, false] rfl rfl (one_of HT_.out kz) (by decide) (fun K hK => ?_)
     refine goes_ Tryz.func57 kz rfl #[] (by rfl) rfl rfl mz ?_
     with_reducible refine (class_letters.calls  t156 _ A18.out).mono ?_
     rintro e w25 ⟨v157, rfl, ho0, hb⟩
     refine ⟨_, rfl, ?_⟩
     have n0_ := Aside0.mk (Kd.R_below (rz HO161.out) hb)
     have n1_ := Aside0.mk (Kd.R_lower ho0 (below_size bz))
     have n2_ := hz hb
     clear HO161
     clear HB
     have HO161 := n0_
     have HO158 := n1_
     have HB := n2_
     clear n0_ n1_ n2_
     (try clear hb)
     (try clear hb2)
     (try clear hk)
     (try clear hi)
     (try clear ho0)
     refine hK.out _ _ trivial (fun hHeld => ?_)
     clear hK K
     refine norm_ (a' := ?_) ?_ ?_
     rotate_left
     ·show Act.put _ (some 25) _ = _
      simp only [Act.put, List.setIfInBounds_toArray, List.set_cons_zero, List.set_cons_succ, i64_w, i32_w]
      rfl
     exact norm_ (by simp only [putAll, Act.put, List.setIfInBounds_toArray, List.set_cons_zero, List.set_cons_succ]) (hCont (v157, v160) _ ⟨(rz HO158.out), (rz HO161.out), bz⟩)
    rintro ⟨v157, v160⟩ w26 ⟨h0_, h1_, h2_⟩
    have n0_ : Aside0 (Kd.R k105 105 w26 w.heap.size (fun _ => True) v157 t156) := ⟨h0_⟩
    have n1_ : Aside0 (Kd.R (Kd.int .u8) 5 w26 w.heap.size (fun _ => True) v160 y159) := ⟨h1_⟩
    have n2_ : Aside0 (Below w.heap.size w w26) := ⟨h2_⟩
    clear HB
    clear h0_ h1_ h2_
    have HO158 := n0_
    have HO161 := n1_
    have HB := n2_
    clear n0_ n1_ n2_
    have hHeld := trivial
    obtain ⟨Ao27, co27, eo27⟩ := Kd.R_slice HO158.out
    (first | subst eo27 | (injection eo27 with f1_ f2_ f3_; have f4_ := f1_.symm; have f5_ := f3_.symm; clear f1_ f2_ f3_; subst f4_; subst f5_))
    refine norm_ (a' := ?_) ?_ ?_
    rotate_left
    ·simp only [putAll, Act.put, List.setIfInBounds_toArray, List.set_cons_zero, List.set_cons_succ]
     rfl
    refine one_ (i := 7) (N := some 32) #[true, true, true, true, true, true, true, true, false, false, false, false] rfl rfl (one_of HT_.out kz) (by decide) (fun K hK => ?_)
    refine goes_ Tryz.func58 kz rfl #[.slice Ao27 t156.length co27, .string ((⟨#[94]⟩ : ByteArray) ++ (strOfNums y159))] (by rfl) rfl rfl mz ?_
    with_reducible refine (class_turned.calls kj14 _ _ t156 ((⟨#[94]⟩ : ByteArray) ++ (strOfNums y159)) t162 t163 _ ?side1 ?side2 A20.out).mono ?_
    (case side1 => exact cz (Kd.R_reads' HO158.out).2.2)
    (case side2 => exact (Kd.R_reads' HO158.out).2.1)
    rintro e w28 ⟨v164, rfl, ho0, hb⟩
    refine ⟨_, rfl, ?_⟩
    have n0_ := Aside0.mk (Kd.R_below (rz HO158.out) hb)
    have n1_ := Aside0.mk (Kd.R_below (rz HO161.out) hb)
    have n2_ := Aside0.mk (Kd.R_lower ho0 (below_size bz))
    have n3_ := hz hb
    clear HO158
    clear HO161
    clear HB
    have HO158 := n0_
    have HO161 := n1_
    have HO165 := n2_
    have HB := n3_
    clear n0_ n1_ n2_ n3_
    (try clear hb)
    (try clear hb2)
    (try clear hk)
    (try clear hi)
    (try clear ho0)
    refine hK.out _ _ trivial (fun hHeld => ?_)
    clear hK K
    refine norm_ (a' := ?_) ?_ ?_
    rotate_left
    ·show Act.put _ (some 32) _ = _
     simp only [Act.put, List.setIfInBounds_toArray, List.set_cons_zero, List.set_cons_succ, i64_w, i32_w]
     rfl
    refine pure_ (i := 8) (N := some 33) (v := ?_) (a' := ?_) #[true, true, true, true, true, true, true, true, true, false, false, false] rfl rfl (any_of HT_.out kz) (fun _ _ _ h => h) (Or.inl ⟨by rfl, ?_⟩) ?_ ?_
    rotate_left
    ·intro w'
     go_simp
     with_reducible rfl
    rotate_left
    ·simp only [Act.put, List.setIfInBounds_toArray, List.set_cons_zero, List.set_cons_succ, i64_w, i32_w]
     rfl
    refine pure_ (i := 9) (N := some 34) (v := ?_) (a' := ?_) #[true, true, true, true, true, true, true, true, true, true, false, false] rfl rfl (any_of HT_.out kz) (fun _ _ _ h => h) (Or.inl ⟨by rfl, ?_⟩) ?_ ?_
    rotate_left
    ·intro w'
     go_simp
     with_reducible rfl
    rotate_left
    ·simp only [Act.put, List.setIfInBounds_toArray, List.set_cons_zero, List.set_cons_succ, i64_w, i32_w]
     rfl
    refine pure_ (i := 10) (N := some 2) (v := ?_) (a' := ?_) #[true, true, true, true, true, true, true, true, true, true, true, false] rfl rfl (any_of HT_.out kz) (fun _ _ _ h => h) (Or.inl ⟨by rfl, ?_⟩) ?_ ?_
    rotate_left
    ·intro w'
     go_simp
     with_reducible rfl
    rotate_left
    ·simp only [Act.put, List.setIfInBounds_toArray, List.set_cons_zero, List.set_cons_succ, i64_w, i32_w]
     rfl
    refine pure_ (i := 11) (N := some 3) (v := ?_) (a' := ?_) #[true, true, true, true, true, true, true, true, true, true, true, true] rfl rfl (any_of HT_.out kz) (fun _ _ _ h => h) (Or.inl ⟨by rfl, ?_⟩) ?_ ?_
    rotate_left
    ·intro w'
     go_simp
     with_reducible rfl
    rotate_left
    ·simp only [Act.put, List.setIfInBounds_toArray, List.set_cons_zero, List.set_cons_succ, i64_w, i32_w]
     rfl
    refine done_ (done_of HT_.out kz) ?_
    try go_wp2
    go_ret2
    exact ⟨_, fz, rz HO165.out, bz⟩
   replace c17 := Bool.eq_false_iff.mpr c17
   subst c17
   rw [if_neg (show ¬ (false = true) by decide)] at H
   simp only [Option.some.injEq, Prod.mk.injEq] at H
   obtain ⟨rfl, rfl⟩ := H
   go_wp2
   go_ret2
   exact ⟨_, fz, by first | exact Kd.R_nil _ _ _ _ _ | exact Kd.N_nil _ _ _ _ _ | exact Kd.V_nil _ _ _ _ _ | exact Kd.Q_nil _ _ _ _ _ | exact Kd.S_nil _ _ _ _ _, bz⟩
-- own text
def strings_IndexByte.f (a0 : ByteArray) (a1 : Int) : Option Int := some (Lib.indexByte a0.data.toList a1.toNat.toUInt8)
theorem strings_IndexByte.calls (a0 : ByteArray) (a1 : Int) (r : Int) (w : World) (h : strings_IndexByte.f a0 a1 = some r) :
  Calls Tryz.prog 23 #[.string a0, .int .u8 a1] w fun e w' => e = .returned (.int .i64 r) ∧ Below w.heap.size w w' := by
 obtain rfl := Option.some.inj h
 exact (Go.Proofs.Any.strings_IndexByte Tryz.lay_idxByte a0 a1 w).mono fun e w' ⟨he, hw⟩ => ⟨he, hw ▸ Below.refl _ _⟩
def bracket_letter.f (a0 : Int) : Option (Bool) := if a0 ≥ 97 then (if a0 ≤ 122 then (some true) else (if a0 ≥ 65 then (some (decide (a0 ≤ 90))) else (some false))) else (if a0 ≥ 65 then (some (decide (a0 ≤ 90))) else (some false))
set_option maxHeartbeats 8000000 in
set_option maxRecDepth 100000 in
theorem bracket_letter.calls (a0 : Int) (r : Bool) (w : World) (h : bracket_letter.f a0 = some r) :
  Calls Tryz.prog 27 #[.int .u8 a0] w fun e w' => e = .returned (.bool r) ∧ Drawn0 w w' := by
 have H : (if a0 ≥ 97 then (if a0 ≤ 122 then (some true) else (if a0 ≥ 65 then (some (decide (a0 ≤ 90))) else (some false))) else (if a0 ≥ 65 then (some (decide (a0 ≤ 90))) else (some false))) = some r := h
 clear h
 by_cases c2 : a0 ≥ 97
 ·rw [if_pos c2] at H
  have c2b0 : decide (97 ≤ a0) = true := decide_eq_true c2
  clear c2
  by_cases c3 : a0 ≤ 122
  ·rw [if_pos c3] at H
   have c3b0 := decide_eq_true c3
   clear c3
   obtain rfl := Option.some.inj H
   go_enter Tryz.func27, Tryz.ntmps27
   go_wp2
   go_ret
   exact ⟨ez, dz⟩
  rw [if_neg c3] at H
  have c3b0 := decide_eq_false c3
  clear c3
  by_cases c4 : a0 ≥ 65
  ·rw [if_pos c4] at H
   have c4b0 : decide (65 ≤ a0) = true := decide_eq_true c4
   clear c4
   obtain rfl := Option.some.inj H
   go_enter Tryz.func27, Tryz.ntmps27
   go_wp2
   go_ret
   exact ⟨ez, dz⟩
  rw [if_neg c4] at H
  have c4b0 : decide (65 ≤ a0) = false := decide_eq_false c4
  clear c4
  obtain rfl := Option.some.inj H
  go_enter Tryz.func27, Tryz.ntmps27
  go_wp2
  go_ret
  exact ⟨ez, dz⟩
 rw [if_neg c2] at H
 have c2b0 : decide (97 ≤ a0) = false := decide_eq_false c2
 clear c2
 by_cases c5 : a0 ≥ 65
 ·rw [if_pos c5] at H
  have c5b0 : decide (65 ≤ a0) = true := decide_eq_true c5
  clear c5
  obtain rfl := Option.some.inj H
  go_enter Tryz.func27, Tryz.ntmps27
  go_wp2
  go_ret
  exact ⟨ez, dz⟩
 rw [if_neg c5] at H
 have c5b0 : decide (65 ≤ a0) = false := decide_eq_false c5
 clear c5
 obtain rfl := Option.some.inj H
 go_enter Tryz.func27, Tryz.ntmps27
 go_wp2
 go_ret
 exact ⟨ez, dz⟩
def class_properties.f  : Option ((List (S105))) := some (([(⟨(⟨#[65, 110, 121]⟩ : ByteArray), (⟨#[48, 45, 49, 48, 70, 70, 70, 70]⟩ : ByteArray)⟩ : S105), (⟨(⟨#[67, 121, 114, 105, 108, 108, 105, 99]⟩ : ByteArray), (⟨#[52, 48, 48, 45, 52, 56, 52, 32, 52, 56, 55, 45, 53, 50, 70]⟩ : ByteArray)⟩ : S105), (⟨(⟨#[71, 114, 101, 101, 107]⟩ : ByteArray), (⟨#[51, 55, 48, 45, 51, 55, 51, 32, 51, 55, 53, 45, 51, 55, 55, 32, 51, 55, 65, 45, 51, 55, 68, 32, 51, 55, 70, 32, 51, 56, 52, 32, 51, 56, 54, 32, 51, 56, 56, 45, 51, 56, 65, 32, 51, 56, 67, 32, 51, 56, 69, 45, 51, 65, 49, 32, 51, 65, 51, 45, 51, 69, 49, 32, 51, 70, 48, 45, 51, 70, 70, 32, 50, 49, 50, 54]⟩ : ByteArray)⟩ : S105), (⟨(⟨#[76]⟩ : ByteArray), (⟨#[52, 49, 45, 53, 65, 32, 67, 48, 45, 68, 54, 32, 68, 56, 45, 68, 69, 32, 49, 55, 56, 32, 51, 57, 49, 45, 51, 65, 49, 32, 51, 65, 51, 45, 51, 65, 66, 32, 52, 48, 48, 45, 52, 50, 70, 32, 54, 49, 45, 55, 65, 32, 66, 53, 32, 68, 70, 45, 70, 54, 32, 70, 56, 45, 70, 70, 32, 51, 65, 67, 45, 51, 67, 69, 32, 52, 51, 48, 45, 52, 53, 70, 32, 49, 55, 70, 32, 52, 49, 45, 53, 65, 32, 54, 49, 45, 55, 65, 32, 65, 65, 32, 66, 65, 32, 67, 48, 45, 68, 54, 32, 68, 56, 45, 70, 54, 32, 70, 56, 45, 50, 52, 70, 32, 51, 55, 48, 45, 51, 55, 51, 32, 51, 55, 53, 45, 51, 55, 55, 32, 51, 55, 65, 45, 51, 55, 68, 32, 51, 55, 70, 32, 51, 56, 52, 32, 51, 56, 54, 32, 51, 56, 56, 45, 51, 56, 65, 32, 51, 56, 67, 32, 51, 56, 69, 45, 51, 65, 49, 32, 51, 65, 51, 45, 51, 69, 49, 32, 51, 70, 48, 45, 51, 70, 70, 32, 50, 49, 50, 54, 32, 52, 48, 48, 45, 52, 56, 52, 32, 52, 56, 55, 45, 53, 50, 70]⟩ : ByteArray)⟩ : S105), (⟨(⟨#[76, 97, 116, 105, 110]⟩ : ByteArray), (⟨#[52, 49, 45, 53, 65, 32, 54, 49, 45, 55, 65, 32, 65, 65, 32, 66, 65, 32, 67, 48, 45, 68, 54, 32, 68, 56, 45, 70, 54, 32, 70, 56, 45, 50, 52, 70]⟩ : ByteArray)⟩ : S105), (⟨(⟨#[76, 108]⟩ : ByteArray), (⟨#[54, 49, 45, 55, 65, 32, 66, 53, 32, 68, 70, 45, 70, 54, 32, 70, 56, 45, 70, 70, 32, 51, 65, 67, 45, 51, 67, 69, 32, 52, 51, 48, 45, 52, 53, 70, 32, 49, 55, 70]⟩ : ByteArray)⟩ : S105), (⟨(⟨#[76, 117]⟩ : ByteArray), (⟨#[52, 49, 45, 53, 65, 32, 67, 48, 45, 68, 54, 32, 68, 56, 45, 68, 69, 32, 49, 55, 56, 32, 51, 57, 49, 45, 51, 65, 49, 32, 51, 65, 51, 45, 51, 65, 66, 32, 52, 48, 48, 45, 52, 50, 70]⟩ : ByteArray)⟩ : S105), (⟨(⟨#[78, 100]⟩ : ByteArray), (⟨#[51, 48, 45, 51, 57, 32, 54, 54, 48, 45, 54, 54, 57, 32, 54, 70, 48, 45, 54, 70, 57, 32, 57, 54, 54, 45, 57, 54, 70]⟩ : ByteArray)⟩ : S105)] : List (S105)))
set_option maxHeartbeats 8000000 in
set_option maxRecDepth 100000 in
theorem class_properties.calls  (r : List (S105)) (w : World) (h : class_properties.f  = some r) :
  Calls Tryz.prog 89 #[] w fun e w' => ∃ v0_ : Value, e = .returned (v0_) ∧ Kd.R k105 105 w' w.heap.size (fun _ => True) v0_ r ∧ Below w.heap.size w w' := by
 have hu105 := Tryz.underlying105
 have HB := Aside0.mk (Below.refl w.heap.size w)
 have H : (some (([(⟨(⟨#[65, 110, 121]⟩ : ByteArray), (⟨#[48, 45, 49, 48, 70, 70, 70, 70]⟩ : ByteArray)⟩ : S105), (⟨(⟨#[67, 121, 114, 105, 108, 108, 105, 99]⟩ : ByteArray), (⟨#[52, 48, 48, 45, 52, 56, 52, 32, 52, 56, 55, 45, 53, 50, 70]⟩ : ByteArray)⟩ : S105), (⟨(⟨#[71, 114, 101, 101, 107]⟩ : ByteArray), (⟨#[51, 55, 48, 45, 51, 55, 51, 32, 51, 55, 53, 45, 51, 55, 55, 32, 51, 55, 65, 45, 51, 55, 68, 32, 51, 55, 70, 32, 51, 56, 52, 32, 51, 56, 54, 32, 51, 56, 56, 45, 51, 56, 65, 32, 51, 56, 67, 32, 51, 56, 69, 45, 51, 65, 49, 32, 51, 65, 51, 45, 51, 69, 49, 32, 51, 70, 48, 45, 51, 70, 70, 32, 50, 49, 50, 54]⟩ : ByteArray)⟩ : S105), (⟨(⟨#[76]⟩ : ByteArray), (⟨#[52, 49, 45, 53, 65, 32, 67, 48, 45, 68, 54, 32, 68, 56, 45, 68, 69, 32, 49, 55, 56, 32, 51, 57, 49, 45, 51, 65, 49, 32, 51, 65, 51, 45, 51, 65, 66, 32, 52, 48, 48, 45, 52, 50, 70, 32, 54, 49, 45, 55, 65, 32, 66, 53, 32, 68, 70, 45, 70, 54, 32, 70, 56, 45, 70, 70, 32, 51, 65, 67, 45, 51, 67, 69, 32, 52, 51, 48, 45, 52, 53, 70, 32, 49, 55, 70, 32, 52, 49, 45, 53, 65, 32, 54, 49, 45, 55, 65, 32, 65, 65, 32, 66, 65, 32, 67, 48, 45, 68, 54, 32, 68, 56, 45, 70, 54, 32, 70, 56, 45, 50, 52, 70, 32, 51, 55, 48, 45, 51, 55, 51, 32, 51, 55, 53, 45, 51, 55, 55, 32, 51, 55, 65, 45, 51, 55, 68, 32, 51, 55, 70, 32, 51, 56, 52, 32, 51, 56, 54, 32, 51, 56, 56, 45, 51, 56, 65, 32, 51, 56, 67, 32, 51, 56, 69, 45, 51, 65, 49, 32, 51, 65, 51, 45, 51, 69, 49, 32, 51, 70, 48, 45, 51, 70, 70, 32, 50, 49, 50, 54, 32, 52, 48, 48, 45, 52, 56, 52, 32, 52, 56, 55, 45, 53, 50, 70]⟩ : ByteArray)⟩ : S105), (⟨(⟨#[76, 97, 116, 105, 110]⟩ : ByteArray), (⟨#[52, 49, 45, 53, 65, 32, 54, 49, 45, 55, 65, 32, 65, 65, 32, 66, 65, 32, 67, 48, 45, 68, 54, 32, 68, 56, 45, 70, 54, 32, 70, 56, 45, 50, 52, 70]⟩ : ByteArray)⟩ : S105), (⟨(⟨#[76, 108]⟩ : ByteArray), (⟨#[54, 49, 45, 55, 65, 32, 66, 53, 32, 68, 70, 45, 70, 54, 32, 70, 56, 45, 70, 70, 32, 51, 65, 67, 45, 51, 67, 69, 32, 52, 51, 48, 45, 52, 53, 70, 32, 49, 55, 70]⟩ : ByteArray)⟩ : S105), (⟨(⟨#[76, 117]⟩ : ByteArray), (⟨#[52, 49, 45, 53, 65, 32, 67, 48, 45, 68, 54, 32, 68, 56, 45, 68, 69, 32, 49, 55, 56, 32, 51, 57, 49, 45, 51, 65, 49, 32, 51, 65, 51, 45, 51, 65, 66, 32, 52, 48, 48, 45, 52, 50, 70]⟩ : ByteArray)⟩ : S105), (⟨(⟨#[78, 100]⟩ : ByteArray), (⟨#[51, 48, 45, 51, 57, 32, 54, 54, 48, 45, 54, 54, 57, 32, 54, 70, 48, 45, 54, 70, 57, 32, 57, 54, 54, 45, 57, 54, 70]⟩ : ByteArray)⟩ : S105)] : List (S105)))) = some r := h
 clear h
 obtain ⟨y166, hy166⟩ : ∃ y_ : List (S105), y_ = (([(⟨(⟨#[65, 110, 121]⟩ : ByteArray), (⟨#[48, 45, 49, 48, 70, 70, 70, 70]⟩ : ByteArray)⟩ : S105), (⟨(⟨#[67, 121, 114, 105, 108, 108, 105, 99]⟩ : ByteArray), (⟨#[52, 48, 48, 45, 52, 56, 52, 32, 52, 56, 55, 45, 53, 50, 70]⟩ : ByteArray)⟩ : S105), (⟨(⟨#[71, 114, 101, 101, 107]⟩ : ByteArray), (⟨#[51, 55, 48, 45, 51, 55, 51, 32, 51, 55, 53, 45, 51, 55, 55, 32, 51, 55, 65, 45, 51, 55, 68, 32, 51, 55, 70, 32, 51, 56, 52, 32, 51, 56, 54, 32, 51, 56, 56, 45, 51, 56, 65, 32, 51, 56, 67, 32, 51, 56, 69, 45, 51, 65, 49, 32, 51, 65, 51, 45, 51, 69, 49, 32, 51, 70, 48, 45, 51, 70, 70, 32, 50, 49, 50, 54]⟩ : ByteArray)⟩ : S105), (⟨(⟨#[76]⟩ : ByteArray), (⟨#[52, 49, 45, 53, 65, 32, 67, 48, 45, 68, 54, 32, 68, 56, 45, 68, 69, 32, 49, 55, 56, 32, 51, 57, 49, 45, 51, 65, 49, 32, 51, 65, 51, 45, 51, 65, 66, 32, 52, 48, 48, 45, 52, 50, 70, 32, 54, 49, 45, 55, 65, 32, 66, 53, 32, 68, 70, 45, 70, 54, 32, 70, 56, 45, 70, 70, 32, 51, 65, 67, 45, 51, 67, 69, 32, 52, 51, 48, 45, 52, 53, 70, 32, 49, 55, 70, 32, 52, 49, 45, 53, 65, 32, 54, 49, 45, 55, 65, 32, 65, 65, 32, 66, 65, 32, 67, 48, 45, 68, 54, 32, 68, 56, 45, 70, 54, 32, 70, 56, 45, 50, 52, 70, 32, 51, 55, 48, 45, 51, 55, 51, 32, 51, 55, 53, 45, 51, 55, 55, 32, 51, 55, 65, 45, 51, 55, 68, 32, 51, 55, 70, 32, 51, 56, 52, 32, 51, 56, 54, 32, 51, 56, 56, 45, 51, 56, 65, 32, 51, 56, 67, 32, 51, 56, 69, 45, 51, 65, 49, 32, 51, 65, 51, 45, 51, 69, 49, 32, 51, 70, 48, 45, 51, 70, 70, 32, 50, 49, 50, 54, 32, 52, 48, 48, 45, 52, 56, 52, 32, 52, 56, 55, 45, 53, 50, 70]⟩ : ByteArray)⟩ : S105), (⟨(⟨#[76, 97, 116, 105, 110]⟩ : ByteArray), (⟨#[52, 49, 45, 53, 65, 32, 54, 49, 45, 55, 65, 32, 65, 65, 32, 66, 65, 32, 67, 48, 45, 68, 54, 32, 68, 56, 45, 70, 54, 32, 70, 56, 45, 50, 52, 70]⟩ : ByteArray)⟩ : S105), (⟨(⟨#[76, 108]⟩ : ByteArray), (⟨#[54, 49, 45, 55, 65, 32, 66, 53, 32, 68, 70, 45, 70, 54, 32, 70, 56, 45, 70, 70, 32, 51, 65, 67, 45, 51, 67, 69, 32, 52, 51, 48, 45, 52, 53, 70, 32, 49, 55, 70]⟩ : ByteArray)⟩ : S105), (⟨(⟨#[76, 117]⟩ : ByteArray), (⟨#[52, 49, 45, 53, 65, 32, 67, 48, 45, 68, 54, 32, 68, 56, 45, 68, 69, 32, 49, 55, 56, 32, 51, 57, 49, 45, 51, 65, 49, 32, 51, 65, 51, 45, 51, 65, 66, 32, 52, 48, 48, 45, 52, 50, 70]⟩ : ByteArray)⟩ : S105), (⟨(⟨#[78, 100]⟩ : ByteArray), (⟨#[51, 48, 45, 51, 57, 32, 54, 54, 48, 45, 54, 54, 57, 32, 54, 70, 48, 45, 54, 70, 57, 32, 57, 54, 54, 45, 57, 54, 70]⟩ : ByteArray)⟩ : S105)] : List (S105))) := ⟨_, rfl⟩
 rw [← hy166] at H
 try rw [Option.bind_some] at H
 have Ny166 := Aside0.mk hy166
 clear hy166
 obtain rfl := Option.some.inj H
 go_enter Tryz.func89, Tryz.ntmps89
 go_wp2_with (first | ((with_reducible refine gate_dst (N := 9) rfl ?_); refine Kd.R_lit k105 _ 105 ?hg (N := 9) ?hd (xs := ([(⟨(⟨#[65, 110, 121]⟩ : ByteArray), (⟨#[48, 45, 49, 48, 70, 70, 70, 70]⟩ : ByteArray)⟩ : S105), (⟨(⟨#[67, 121, 114, 105, 108, 108, 105, 99]⟩ : ByteArray), (⟨#[52, 48, 48, 45, 52, 56, 52, 32, 52, 56, 55, 45, 53, 50, 70]⟩ : ByteArray)⟩ : S105), (⟨(⟨#[71, 114, 101, 101, 107]⟩ : ByteArray), (⟨#[51, 55, 48, 45, 51, 55, 51, 32, 51, 55, 53, 45, 51, 55, 55, 32, 51, 55, 65, 45, 51, 55, 68, 32, 51, 55, 70, 32, 51, 56, 52, 32, 51, 56, 54, 32, 51, 56, 56, 45, 51, 56, 65, 32, 51, 56, 67, 32, 51, 56, 69, 45, 51, 65, 49, 32, 51, 65, 51, 45, 51, 69, 49, 32, 51, 70, 48, 45, 51, 70, 70, 32, 50, 49, 50, 54]⟩ : ByteArray)⟩ : S105), (⟨(⟨#[76]⟩ : ByteArray), (⟨#[52, 49, 45, 53, 65, 32, 67, 48, 45, 68, 54, 32, 68, 56, 45, 68, 69, 32, 49, 55, 56, 32, 51, 57, 49, 45, 51, 65, 49, 32, 51, 65, 51, 45, 51, 65, 66, 32, 52, 48, 48, 45, 52, 50, 70, 32, 54, 49, 45, 55, 65, 32, 66, 53, 32, 68, 70, 45, 70, 54, 32, 70, 56, 45, 70, 70, 32, 51, 65, 67, 45, 51, 67, 69, 32, 52, 51, 48, 45, 52, 53, 70, 32, 49, 55, 70, 32, 52, 49, 45, 53, 65, 32, 54, 49, 45, 55, 65, 32, 65, 65, 32, 66, 65, 32, 67, 48, 45, 68, 54, 32, 68, 56, 45, 70, 54, 32, 70, 56, 45, 50, 52, 70, 32, 51, 55, 48, 45, 51, 55, 51, 32, 51, 55, 53, 45, 51, 55, 55, 32, 51, 55, 65, 45, 51, 55, 68, 32, 51, 55, 70, 32, 51, 56, 52, 32, 51, 56, 54, 32, 51, 56, 56, 45, 51, 56, 65, 32, 51, 56, 67, 32, 51, 56, 69, 45, 51, 65, 49, 32, 51, 65, 51, 45, 51, 69, 49, 32, 51, 70, 48, 45, 51, 70, 70, 32, 50, 49, 50, 54, 32, 52, 48, 48, 45, 52, 56, 52, 32, 52, 56, 55, 45, 53, 50, 70]⟩ : ByteArray)⟩ : S105), (⟨(⟨#[76, 97, 116, 105, 110]⟩ : ByteArray), (⟨#[52, 49, 45, 53, 65, 32, 54, 49, 45, 55, 65, 32, 65, 65, 32, 66, 65, 32, 67, 48, 45, 68, 54, 32, 68, 56, 45, 70, 54, 32, 70, 56, 45, 50, 52, 70]⟩ : ByteArray)⟩ : S105), (⟨(⟨#[76, 108]⟩ : ByteArray), (⟨#[54, 49, 45, 55, 65, 32, 66, 53, 32, 68, 70, 45, 70, 54, 32, 70, 56, 45, 70, 70, 32, 51, 65, 67, 45, 51, 67, 69, 32, 52, 51, 48, 45, 52, 53, 70, 32, 49, 55, 70]⟩ : ByteArray)⟩ : S105), (⟨(⟨#[76, 117]⟩ : ByteArray), (⟨#[52, 49, 45, 53, 65, 32, 67, 48, 45, 68, 54, 32, 68, 56, 45, 68, 69, 32, 49, 55, 56, 32, 51, 57, 49, 45, 51, 65, 49, 32, 51, 65, 51, 45, 51, 65, 66, 32, 52, 48, 48, 45, 52, 50, 70]⟩ : ByteArray)⟩ : S105), (⟨(⟨#[78, 100]⟩ : ByteArray), (⟨#[51, 48, 45, 51, 57, 32, 54, 54, 48, 45, 54, 54, 57, 32, 54, 70, 48, 45, 54, 70, 57, 32, 57, 54, 54, 45, 57, 54, 70]⟩ : ByteArray)⟩ : S105)] : List (S105))) (inner := [.string (⟨#[65, 110, 121]⟩ : ByteArray), .string (⟨#[48, 45, 49, 48, 70, 70, 70, 70]⟩ : ByteArray), .string (⟨#[67, 121, 114, 105, 108, 108, 105, 99]⟩ : ByteArray), .string (⟨#[52, 48, 48, 45, 52, 56, 52, 32, 52, 56, 55, 45, 53, 50, 70]⟩ : ByteArray), .string (⟨#[71, 114, 101, 101, 107]⟩ : ByteArray), .string (⟨#[51, 55, 48, 45, 51, 55, 51, 32, 51, 55, 53, 45, 51, 55, 55, 32, 51, 55, 65, 45, 51, 55, 68, 32, 51, 55, 70, 32, 51, 56, 52, 32, 51, 56, 54, 32, 51, 56, 56, 45, 51, 56, 65, 32, 51, 56, 67, 32, 51, 56, 69, 45, 51, 65, 49, 32, 51, 65, 51, 45, 51, 69, 49, 32, 51, 70, 48, 45, 51, 70, 70, 32, 50, 49, 50, 54]⟩ : ByteArray), .string (⟨#[76]⟩ : ByteArray), .string (⟨#[52, 49, 45, 53, 65, 32, 67, 48, 45, 68, 54, 32, 68, 56, 45, 68, 69, 32, 49, 55, 56, 32, 51, 57, 49, 45, 51, 65, 49, 32, 51, 65, 51, 45, 51, 65, 66, 32, 52, 48, 48, 45, 52, 50, 70, 32, 54, 49, 45, 55, 65, 32, 66, 53, 32, 68, 70, 45, 70, 54, 32, 70, 56, 45, 70, 70, 32, 51, 65, 67, 45, 51, 67, 69, 32, 52, 51, 48, 45, 52, 53, 70, 32, 49, 55, 70, 32, 52, 49, 45, 53, 65, 32, 54, 49, 45, 55, 65, 32, 65, 65, 32, 66, 65, 32, 67, 48, 45, 68, 54, 32, 68, 56, 45, 70, 54, 32, 70, 56, 45, 50, 52, 70, 32, 51, 55, 48, 45, 51, 55, 51, 32, 51, 55, 53, 45, 51, 55, 55, 32, 51, 55, 65, 45, 51, 55, 68, 32, 51, 55, 70, 32, 51, 56, 52, 32, 51, 56, 54, 32, 51, 56, 56, 45, 51, 56, 65, 32, 51, 56, 67, 32, 51, 56, 69, 45, 51, 65, 49, 32, 51, 65, 51, 45, 51, 69, 49, 32, 51, 70, 48, 45, 51, 70, 70, 32, 50, 49, 50, 54, 32, 52, 48, 48, 45, 52, 56, 52, 32, 52, 56, 55, 45, 53, 50, 70]⟩ : ByteArray), .string (⟨#[76, 97, 116, 105, 110]⟩ : ByteArray), .string (⟨#[52, 49, 45, 53, 65, 32, 54, 49, 45, 55, 65, 32, 65, 65, 32, 66, 65, 32, 67, 48, 45, 68, 54, 32, 68, 56, 45, 70, 54, 32, 70, 56, 45, 50, 52, 70]⟩ : ByteArray), .string (⟨#[76, 108]⟩ : ByteArray), .string (⟨#[54, 49, 45, 55, 65, 32, 66, 53, 32, 68, 70, 45, 70, 54, 32, 70, 56, 45, 70, 70, 32, 51, 65, 67, 45, 51, 67, 69, 32, 52, 51, 48, 45, 52, 53, 70, 32, 49, 55, 70]⟩ : ByteArray), .string (⟨#[76, 117]⟩ : ByteArray), .string (⟨#[52, 49, 45, 53, 65, 32, 67, 48, 45, 68, 54, 32, 68, 56, 45, 68, 69, 32, 49, 55, 56, 32, 51, 57, 49, 45, 51, 65, 49, 32, 51, 65, 51, 45, 51, 65, 66, 32, 52, 48, 48, 45, 52, 50, 70]⟩ : ByteArray), .string (⟨#[78, 100]⟩ : ByteArray), .string (⟨#[51, 48, 45, 51, 57, 32, 54, 54, 48, 45, 54, 54, 57, 32, 54, 70, 48, 45, 54, 70, 57, 32, 57, 54, 54, 45, 57, 54, 70]⟩ : ByteArray)]) (ok := fun _ => True) (okp := fun _ => True) ?hr ?hp (fun _ hk => hk) trivial (Below.refl _ _) (Nat.le_refl _) (by simp) ?_; (case hd => rfl); (case hg => rfl); (case hr => first | (go_simp; done) | (go_simp; rfl)); (case hp => exact (Reps.c2 (k105_mkM _ _ _ _) (Reps.c2 (k105_mkM _ _ _ _) (Reps.c2 (k105_mkM _ _ _ _) (Reps.c2 (k105_mkM _ _ _ _) (Reps.c2 (k105_mkM _ _ _ _) (Reps.c2 (k105_mkM _ _ _ _) (Reps.c2 (k105_mkM _ _ _ _) (Reps.c2 (k105_mkM _ _ _ _) (Reps.none _ _)))))))))); intro v167 w1 ho2 hb hg_ hnew_; clear hg_ hnew_; (first | rw [← Ny166.out] at ho2 | (simp only [Int.reduceToNat] at ho2; rw [← Ny166.out] at ho2)); have HO168 := Aside0.mk (Kd.R_lower ho2 (below_size bz)); replace HB := hz hb; clear hb ho2))
 go_ret
 exact ⟨_, fz, rz HO168.out, bz⟩
def class_Property.f (k : Nat) (a0 : ByteArray) : Option ((List (S36)) × Int) := (class_properties.f).bind fun t169 => ((class_turned.f k t169 a0).bind fun bt172 => (some (bt172.1, bt172.2)))
theorem class_Property.mono : ∀ a0 k, LeO (class_Property.f k a0) (class_Property.f (k + 1) a0) := by
 intro a0 k
 unfold class_Property.f
 repeat' first
   | (with_reducible exact class_turned.mono _ _ _)
   | (with_reducible exact LeO.refl _)
   | (with_reducible exact LeO.none _)
   | (with_reducible refine LeO.ite ?_ ?_)
   | (with_reducible refine LeO.bind ?_ (fun _ => ?_))
   | exact class_turned.mono _ _ _
   | exact LeO.none _
   | refine LeO.ite ?_ ?_
   | refine LeO.bind ?_ (fun _ => ?_)
set_option maxHeartbeats 8000000 in
set_option maxRecDepth 100000 in
theorem class_Property.calls (k : Nat) (a0 : ByteArray) (r1 : List (S36)) (r2 : Int) (w : World) (h : class_Property.f k a0 = some (r1, r2)) :
  Calls Tryz.prog 59 #[.string a0] w fun e w' => ∃ v0_ : Value, e = .returned (.tuple #[v0_, .int .i64 r2]) ∧ Kd.R k36 36 w' w.heap.size (fun _ => True) v0_ r1 ∧ Below w.heap.size w w' := by
 have HB := Aside0.mk (Below.refl w.heap.size w)
 have H : ((class_properties.f).bind fun t169 => ((class_turned.f k t169 a0).bind fun bt172 => (some (bt172.1, bt172.2)))) = some (r1, r2) := h
 clear h
 replace H := Option.bind_eq_some_iff.mp H
 obtain ⟨t169, A20, H⟩ := H
 try dsimp only at H
 have A2 := Aside0.mk A20
 clear A20
 replace H := Option.bind_eq_some_iff.mp H
 obtain ⟨⟨t172, t173⟩, A30, H⟩ := H
 try dsimp only at H
 have A3 := Aside0.mk A30
 clear A30
 simp only [Option.some.injEq, Prod.mk.injEq] at H
 obtain ⟨rfl, rfl⟩ := H
 go_enter Tryz.func59, Tryz.ntmps59
 go_wp2_with (first | ((with_reducible refine gate_callee (f := 89) rfl ?_); refine goesL_ (some 4) rfl rfl Tryz.func89 kz rfl #[] rfl mz ?_; (with_reducible refine (class_properties.calls  t169 _ A2.out).mono ?_); rintro e w4 ⟨v170, rfl, ho0, hb⟩; refine ⟨_, rfl, ?_⟩; have HO171 := Aside0.mk (Kd.R_lower ho0 (below_size bz)); replace HB := hz hb; (try clear hb); (try clear ho0); obtain ⟨Ao5, co5, eo5⟩ := Kd.R_slice HO171.out; subst eo5) | ((with_reducible refine gate_callee (f := 58) rfl ?_); refine goesL_ (some 6) rfl rfl Tryz.func58 kz rfl #[.slice Ao5 t169.length co5, .string a0] rfl mz ?_; (with_reducible refine (class_turned.calls k _ _ t169 a0 t172 t173 _ ?side1 ?side2 A3.out).mono ?_); (case side1 => exact cz (Kd.R_reads' HO171.out).2.2); (case side2 => exact (Kd.R_reads' HO171.out).2.1); rintro e w6 ⟨v174, rfl, ho0, hb⟩; refine ⟨_, rfl, ?_⟩; have HO175 := Aside0.mk (Kd.R_lower ho0 (below_size bz)); replace HO171 := Aside0.mk (Kd.R_below (rz HO171.out) hb); replace HB := hz hb; (try clear hb); (try clear ho0)))
 go_ret2
 exact ⟨_, fz, rz HO175.out, bz⟩
def bracket_property.j0 : Nat → ByteArray → Int → ByteArray → Option ((List (S36)) × Int × Int)
 | 0, _, _, _ => none
 | k + 1, x0, x3, x5 => (class_Property.f k x5).bind fun bt178 => (if bt178.2 = 0 then (if 1 < (x0.size : Int) then (if (bt x0 1) = 80 then ((ranges_Not.f k bt178.1).bind fun t182 => (some (t182, x3, 0))) else (some (bt178.1, x3, 0))) else (none)) else (some (([] : List (S36)), 0, bt178.2)))
def bracket_property.f (k : Nat) (a0 : ByteArray) : Option ((List (S36)) × Int × Int) := if (a0.size : Int) = 2 then (some (([] : List (S36)), 0, 82)) else (if 2 ≤ 3 then (if 3 ≤ (a0.size : Int) then (if 2 < (a0.size : Int) then (if (bt a0 2) = 123 then ((strings_IndexByte.f a0 125).bind fun t176 => (if t176 < 0 then (some (([] : List (S36)), 0, 82)) else (if 3 ≤ t176 then (if t176 ≤ (a0.size : Int) then (bracket_property.j0 k a0 (wrap64 (t176 + 1)) (a0.extract 3 (t176 : Int).toNat)) else (none)) else (none)))) else ((bracket_letter.f (bt a0 2)).bind fun t177 => (if t177 = true then (bracket_property.j0 k a0 3 (a0.extract 2 3)) else (some (([] : List (S36)), 0, 70))))) else (none)) else (none)) else (none))
theorem bracket_property.mono_l : ∀ k, (∀ y0 y1 y2, LeO (bracket_property.j0 k y0 y1 y2) (bracket_property.j0 (k + 1) y0 y1 y2))
 | 0 => fun _ _ _ r h => by simp [bracket_property.j0] at h
 | k + 1 => by
  have ih0 := bracket_property.mono_l k
  intro y0 y1 y2
  unfold bracket_property.j0
  repeat' first
  | (with_reducible exact ih0 _ _ _)
  | (with_reducible exact class_Property.mono _ _)
  | (with_reducible exact ranges_Not.mono _ _)
  | (with_reducible exact LeO.refl _)
  | (with_reducible exact LeO.none _)
  | (with_reducible refine LeO.ite ?_ ?_)
  | (with_reducible refine LeO.bind ?_ (fun _ => ?_))
  | exact ih0 _ _ _
  | exact class_Property.mono _ _
  | exact ranges_Not.mono _ _
  | exact LeO.none _
  | refine LeO.ite ?_ ?_
  | refine LeO.bind ?_ (fun _ => ?_)
theorem bracket_property.mono : ∀ a0 k, LeO (bracket_property.f k a0) (bracket_property.f (k + 1) a0) := by
 intro a0 k
 have ih0 := bracket_property.mono_l k
 unfold bracket_property.f
 repeat' first
   | (with_reducible exact ih0 _ _ _)
   | (with_reducible exact class_Property.mono _ _)
   | (with_reducible exact ranges_Not.mono _ _)
   | (with_reducible exact LeO.refl _)
   | (with_reducible exact LeO.none _)
   | (with_reducible refine LeO.ite ?_ ?_)
   | (with_reducible refine LeO.bind ?_ (fun _ => ?_))
   | exact ih0 _ _ _
   | exact class_Property.mono _ _
   | exact ranges_Not.mono _ _
   | exact LeO.none _
   | refine LeO.ite ?_ ?_
   | refine LeO.bind ?_ (fun _ => ?_)
set_option maxHeartbeats 8000000 in
set_option maxRecDepth 100000 in
theorem bracket_property.calls (k : Nat) (a0 : ByteArray) (r1 : List (S36)) (r2 : Int) (r3 : Int) (w : World) (h : bracket_property.f k a0 = some (r1, r2, r3)) :
  Calls Tryz.prog 31 #[.string a0] w fun e w' => ∃ v0_ : Value, e = .returned (.tuple #[v0_, .int .i64 r2, .int .i64 r3]) ∧ Kd.R k36 36 w' w.heap.size (fun _ => True) v0_ r1 ∧ Below w.heap.size w w' := by
 have HB := Aside0.mk (Below.refl w.heap.size w)
 have H : (if (a0.size : Int) = 2 then (some (([] : List (S36)), 0, 82)) else (if 2 ≤ 3 then (if 3 ≤ (a0.size : Int) then (if 2 < (a0.size : Int) then (if (bt a0 2) = 123 then ((strings_IndexByte.f a0 125).bind fun t176 => (if t176 < 0 then (some (([] : List (S36)), 0, 82)) else (if 3 ≤ t176 then (if t176 ≤ (a0.size : Int) then (bracket_property.j0 k a0 (wrap64 (t176 + 1)) (a0.extract 3 (t176 : Int).toNat)) else (none)) else (none)))) else ((bracket_letter.f (bt a0 2)).bind fun t177 => (if t177 = true then (bracket_property.j0 k a0 3 (a0.extract 2 3)) else (some (([] : List (S36)), 0, 70))))) else (none)) else (none)) else (none))) = some (r1, r2, r3) := h
 clear h
 by_cases c2 : (a0.size : Int) = 2
 ·rw [if_pos c2] at H
  have c2b0 := beq_iff_eq.mpr c2
  have c2b1 := bne_eq_false_iff_eq.mpr c2
  clear c2
  simp only [Option.some.injEq, Prod.mk.injEq] at H
  obtain ⟨rfl, rfl, rfl⟩ := H
  go_enter Tryz.func31, Tryz.ntmps31
  go_wp2
  go_ret3
  exact ⟨_, fz, by first | exact Kd.R_nil _ _ _ _ _ | exact Kd.N_nil _ _ _ _ _ | exact Kd.V_nil _ _ _ _ _ | exact Kd.Q_nil _ _ _ _ _ | exact Kd.S_nil _ _ _ _ _, bz⟩
 rw [if_neg c2] at H
 have c2b0 := beq_eq_false_iff_ne.mpr c2
 have c2b1 := bne_iff_ne.mpr c2
 by_cases c3 : 2 ≤ 3
 rotate_left
 ·exact nomatch (if_neg c3).symm.trans H
 rw [if_pos c3] at H
 have c3b0 := eq_true c3
 have c3b1 := decide_eq_true c3
 clear c3
 by_cases c4 : 3 ≤ (a0.size : Int)
 rotate_left
 ·exact nomatch (if_neg c4).symm.trans H
 rw [if_pos c4] at H
 have c4b0 := eq_true c4
 have c4b1 := decide_eq_true c4
 clear c4
 by_cases c5 : 2 < (a0.size : Int)
 rotate_left
 ·exact nomatch (if_neg c5).symm.trans H
 rw [if_pos c5] at H
 have c5b0 := decide_eq_true c5
 have c5b1 : decide (2 < a0.size) = true := decide_eq_true (by omega)
 clear c5
 have HC7 := Aside0.mk H
 clear H
 have q6 : 2 < a0.size := (by have : (2 : Int) < (a0.size : Int) := oz; omega)
 have hx6 : ∀ h : 2 < a0.size, ((a0[2]'h).toNat : Int) = bt a0 2 := bt_at a0 2
 have qi6 : (2 < (a0.size : Int)) = True := eq_true (oz)
 replace q6 := eq_true q6
 go_enter Tryz.func31, Tryz.ntmps31
 go_upto_if 14 with (fail)
 go_cut [3, 5] (fun v3 v5 wc => ∃ (kq : Nat) (x3_6 : Int) (x5_6 : ByteArray), v3 = .int .i64 x3_6 ∧ v5 = .string x5_6 ∧ Aside0 (bracket_property.j0 kq a0 x3_6 x5_6 = some (r1, r2, r3)) ∧ Aside0 (kq ≤ k) ∧ Aside0 (Below w.heap.size w wc))
 case first =>
  have H := HC7.out
  clear HC7
  by_cases c8 : (bt a0 2) = 123
  ·rw [if_pos c8] at H
   have c8b0 := beq_iff_eq.mpr c8
   have c8b1 := bne_eq_false_iff_eq.mpr c8
   clear c8
   (first | rw [c8b0] | (simp only [i64_w, i32_w]; rw [c8b0]) | skip)
   replace H := Option.bind_eq_some_iff.mp H
   obtain ⟨t176, A90, H⟩ := H
   try dsimp only at H
   have A9 := Aside0.mk A90
   clear A90
   by_cases c10 : t176 < 0
   ·rw [if_pos c10] at H
    have c10b0 := decide_eq_true c10
    clear c10
    simp only [Option.some.injEq, Prod.mk.injEq] at H
    obtain ⟨rfl, rfl, rfl⟩ := H
    go_wp2_with (first | ((with_reducible refine gate_callee (f := 23) rfl ?_); refine goesL_ (some 16) rfl rfl Tryz.func23 kz rfl #[.string a0, .int .u8 125] rfl mz ?_; (with_reducible refine (strings_IndexByte.calls a0 125 t176 _ A9.out).mono ?_); rintro e w11 ⟨rfl, hb⟩; refine ⟨_, rfl, ?_⟩; replace HB := hz hb; (try clear hb); (try clear hb2); (try clear hk); (try clear hi)))
    go_ret3
    exact ⟨_, fz, by first | exact Kd.R_nil _ _ _ _ _ | exact Kd.N_nil _ _ _ _ _ | exact Kd.V_nil _ _ _ _ _ | exact Kd.Q_nil _ _ _ _ _ | exact Kd.S_nil _ _ _ _ _, bz⟩
   rw [if_neg c10] at H
   have c10b0 := decide_eq_false c10
   clear c10
   by_cases c12 : 3 ≤ t176
   rotate_left
   ·exact nomatch (if_neg c12).symm.trans H
   rw [if_pos c12] at H
   have c12b0 := eq_true c12
   have c12b1 := decide_eq_true c12
   clear c12
   by_cases c13 : t176 ≤ (a0.size : Int)
   rotate_left
   ·exact nomatch (if_neg c13).symm.trans H
   rw [if_pos c13] at H
   have c13b0 := eq_true c13
   have c13b1 := decide_eq_true c13
   clear c13
   have H' := Aside0.mk H
   clear H
   go_wp2_with (first | ((with_reducible refine gate_callee (f := 23) rfl ?_); refine goesL_ (some 16) rfl rfl Tryz.func23 kz rfl #[.string a0, .int .u8 125] rfl mz ?_; (with_reducible refine (strings_IndexByte.calls a0 125 t176 _ A9.out).mono ?_); rintro e w14 ⟨rfl, hb⟩; refine ⟨_, rfl, ?_⟩; replace HB := hz hb; (try clear hb); (try clear hb2); (try clear hk); (try clear hi)))
   go_meet
   case rel => exact ⟨_, (wrap64 (t176 + 1)), (a0.extract 3 (t176 : Int).toNat), ez, ez, H', ⟨by first | omega | exact Nat.le_refl _⟩, ⟨bz⟩⟩
  rw [if_neg c8] at H
  have c8b0 := beq_eq_false_iff_ne.mpr c8
  have c8b1 := bne_iff_ne.mpr c8
  (first | rw [c8b0] | (simp only [i64_w, i32_w]; rw [c8b0]) | skip)
  replace H := Option.bind_eq_some_iff.mp H
  obtain ⟨t177, A160, H⟩ := H
  try dsimp only at H
  have A16 := Aside0.mk A160
  clear A160
  by_cases c17 : t177 = true
  ·subst c17
   rw [if_pos rfl] at H
   have H' := Aside0.mk H
   clear H
   have q15 : 2 < a0.size := (by have : (2 : Int) < (a0.size : Int) := oz; omega)
   have hx15 : ∀ h : 2 < a0.size, ((a0[2]'h).toNat : Int) = bt a0 2 := bt_at a0 2
   have qi15 : (2 < (a0.size : Int)) = True := eq_true (oz)
   replace q15 := eq_true q15
   go_wp2_with (first | ((with_reducible refine gate_callee (f := 27) rfl ?_); refine goesL_ (some 26) rfl rfl Tryz.func27 kz rfl #[.int .u8 (bt a0 2)] rfl mz ?_; (with_reducible refine (bracket_letter.calls (bt a0 2) true _ A16.out).mono ?_); rintro e w' ⟨rfl, ⟨nd, rfl⟩⟩; refine ⟨_, rfl, ?_⟩))
   go_meet
   case rel => exact ⟨_, (3), (a0.extract 2 3), ez, ez, H', ⟨by first | omega | exact Nat.le_refl _⟩, ⟨bz⟩⟩
  replace c17 := Bool.eq_false_iff.mpr c17
  subst c17
  rw [if_neg (show ¬ (false = true) by decide)] at H
  simp only [Option.some.injEq, Prod.mk.injEq] at H
  obtain ⟨rfl, rfl, rfl⟩ := H
  have q15 : 2 < a0.size := (by have : (2 : Int) < (a0.size : Int) := oz; omega)
  have hx15 : ∀ h : 2 < a0.size, ((a0[2]'h).toNat : Int) = bt a0 2 := bt_at a0 2
  have qi15 : (2 < (a0.size : Int)) = True := eq_true (oz)
  replace q15 := eq_true q15
  go_wp2_with (first | ((with_reducible refine gate_callee (f := 27) rfl ?_); refine goesL_ (some 26) rfl rfl Tryz.func27 kz rfl #[.int .u8 (bt a0 2)] rfl mz ?_; (with_reducible refine (bracket_letter.calls (bt a0 2) false _ A16.out).mono ?_); rintro e w' ⟨rfl, ⟨nd, rfl⟩⟩; refine ⟨_, rfl, ?_⟩))
  go_ret3
  exact ⟨_, fz, by first | exact Kd.R_nil _ _ _ _ _ | exact Kd.N_nil _ _ _ _ _ | exact Kd.V_nil _ _ _ _ _ | exact Kd.Q_nil _ _ _ _ _ | exact Kd.S_nil _ _ _ _ _, bz⟩
 clear HC7
 try clear c1
 try clear p1
 try clear q1
 try clear hx1
 try clear qi1
 try clear c2
 try clear c2b0 c2b1
 try clear p2
 try clear c3
 try clear c3b0 c3b1
 try clear c4
 try clear c4b0 c4b1
 try clear c5
 try clear c5b0 c5b1
 try clear p6
 try clear q6
 try clear hx6
 try clear qi6
 try clear c8
 try clear c8b0 c8b1
 try clear c10
 try clear c10b0
 try clear c12
 try clear c12b0 c12b1
 try clear c13
 try clear c13b0 c13b1
 try clear p15
 try clear q15
 try clear hx15
 try clear qi15
 try clear c17
 try clear p15
 try clear p6
 try clear q15
 try clear q6
 obtain ⟨kq, x3_6, x5_6, rfl, rfl, HA, HJ6, HB⟩ := hcut
 cases kq with
 | zero => exact absurd HA.out (by simp [bracket_property.j0])
 | succ kj6 =>
  have H := HA.out
  clear HA
  simp only [bracket_property.j0] at H
  replace H := Option.bind_eq_some_iff.mp H
  obtain ⟨⟨t178, t179⟩, A180, H⟩ := H
  try dsimp only at H
  have A18 := Aside0.mk A180
  clear A180
  by_cases c19 : t179 = 0
  ·rw [if_pos c19] at H
   have c19b0 := beq_iff_eq.mpr c19
   have c19b1 := bne_eq_false_iff_eq.mpr c19
   clear c19
   by_cases c20 : 1 < (a0.size : Int)
   rotate_left
   ·exact nomatch (if_neg c20).symm.trans H
   rw [if_pos c20] at H
   have c20b0 := decide_eq_true c20
   have c20b1 : decide (1 < a0.size) = true := decide_eq_true (by omega)
   clear c20
   by_cases c22 : (bt a0 1) = 80
   ·rw [if_pos c22] at H
    have c22b0 := beq_iff_eq.mpr c22
    have c22b1 := bne_eq_false_iff_eq.mpr c22
    clear c22
    replace H := Option.bind_eq_some_iff.mp H
    obtain ⟨t182, A230, H⟩ := H
    try dsimp only at H
    have A23 := Aside0.mk A230
    clear A230
    simp only [Option.some.injEq, Prod.mk.injEq] at H
    obtain ⟨rfl, rfl, rfl⟩ := H
    go_wp2_with (first | ((with_reducible refine gate_callee (f := 59) rfl ?_); refine goesL_ (some 30) rfl rfl Tryz.func59 kz rfl #[.string x5_6] rfl mz ?_; (with_reducible refine (class_Property.calls kj6 x5_6 t178 t179 _ A18.out).mono ?_); rintro e w24 ⟨v180, rfl, ho0, hb⟩; refine ⟨_, rfl, ?_⟩; have HO181 := Aside0.mk (Kd.R_lower ho0 (below_size bz)); replace HB := hz hb; (try clear hb); (try clear ho0); have p21 : 0 ≤ (1 : Int) := (by omega); have q21 : 1 < a0.size := (by have : (1 : Int) < (a0.size : Int) := oz; omega); have hx21 : ∀ h : 1 < a0.size, ((a0[1]'h).toNat : Int) = bt a0 1 := bt_at a0 1; clear p21; have qi21 : (1 < (a0.size : Int)) = True := eq_true (oz); replace q21 := eq_true q21; obtain ⟨Ao25, co25, eo25⟩ := Kd.R_slice HO181.out; subst eo25) | ((with_reducible refine gate_callee (f := 19) rfl ?_); refine goesL_ (some 40) rfl rfl Tryz.func19 kz rfl #[.slice Ao25 t178.length co25] rfl mz ?_; (with_reducible refine (ranges_Not.calls kj6 _ _ t178 t182 _ ?side1 ?side2 A23.out).mono ?_); (case side1 => exact cz (Kd.R_reads' HO181.out).2.2); (case side2 => exact (Kd.R_reads' HO181.out).2.1); rintro e w26 ⟨v183, rfl, ho0, hb⟩; refine ⟨_, rfl, ?_⟩; have HO184 := Aside0.mk (Kd.R_lower (Kd.R_new' ho0 (Kd.R_lt (rz HO181.out))) (below_size bz)); replace HO181 := Aside0.mk (Kd.R_elder' (rz HO181.out) (Kd.R_base ho0) hb); replace HB := hz hb; (try clear hb); (try clear ho0)))
    go_ret3
    exact ⟨_, fz, rz (R_all HO184.out), bz⟩
   rw [if_neg c22] at H
   have c22b0 := beq_eq_false_iff_ne.mpr c22
   have c22b1 := bne_iff_ne.mpr c22
   simp only [Option.some.injEq, Prod.mk.injEq] at H
   obtain ⟨rfl, rfl, rfl⟩ := H
   go_wp2_with (first | ((with_reducible refine gate_callee (f := 59) rfl ?_); refine goesL_ (some 30) rfl rfl Tryz.func59 kz rfl #[.string x5_6] rfl mz ?_; (with_reducible refine (class_Property.calls kj6 x5_6 t178 t179 _ A18.out).mono ?_); rintro e w27 ⟨v180, rfl, ho0, hb⟩; refine ⟨_, rfl, ?_⟩; have HO181 := Aside0.mk (Kd.R_lower ho0 (below_size bz)); replace HB := hz hb; (try clear hb); (try clear ho0); have p21 : 0 ≤ (1 : Int) := (by omega); have q21 : 1 < a0.size := (by have : (1 : Int) < (a0.size : Int) := oz; omega); have hx21 : ∀ h : 1 < a0.size, ((a0[1]'h).toNat : Int) = bt a0 1 := bt_at a0 1; clear p21; have qi21 : (1 < (a0.size : Int)) = True := eq_true (oz); replace q21 := eq_true q21))
   go_ret3
   exact ⟨_, fz, rz HO181.out, bz⟩
  rw [if_neg c19] at H
  have c19b0 := beq_eq_false_iff_ne.mpr c19
  have c19b1 := bne_iff_ne.mpr c19
  simp only [Option.some.injEq, Prod.mk.injEq] at H
  obtain ⟨rfl, rfl, rfl⟩ := H
  go_wp2_with (first | ((with_reducible refine gate_callee (f := 59) rfl ?_); refine goesL_ (some 30) rfl rfl Tryz.func59 kz rfl #[.string x5_6] rfl mz ?_; (with_reducible refine (class_Property.calls kj6 x5_6 t178 t179 _ A18.out).mono ?_); rintro e w28 ⟨v180, rfl, ho0, hb⟩; refine ⟨_, rfl, ?_⟩; have HO181 := Aside0.mk (Kd.R_lower ho0 (below_size bz)); replace HB := hz hb; (try clear hb); (try clear ho0)))
  go_ret3
  exact ⟨_, fz, by first | exact Kd.R_nil _ _ _ _ _ | exact Kd.N_nil _ _ _ _ _ | exact Kd.V_nil _ _ _ _ _ | exact Kd.Q_nil _ _ _ _ _ | exact Kd.S_nil _ _ _ _ _, bz⟩
end Go.Proofs.YtheheijhijeljaaGreatDoor.HBracketReads
