/- BitRef: what the document's search finds, walked; no condition. -/
import Derived.Test.YtjajehjhonabdaaHBitstateFindsx4
import Derived.Test.YtjajehjhonabdaaXBitRunAt
namespace Go.Proofs.Ytjajehjhonabdaa.Pure
open Go.RowKit Go.Proofs.Ytjajehjhonabdaa.HBitstateFinds Go.Proofs.YtjajehjhonabdaaW.PrintWords Go.Proofs.YtjajehjhonabdaaW.PrintLast Go.Proofs.YtjajehjhonabdaaW.PrintMore
open Go.Proofs.YtjajehjhonabdaaX
open Bit
set_option linter.unusedVariables false
set_option linter.unusedSimpArgs false
theorem word_f (c : Int) : burinref12_Word.f c = some (wordB c) := by
  unfold burinref12_Word.f wordB
  repeat' split
  all_goals (congr 1; symm; first | (rw [decide_eq_true_iff]; omega) | (rw [decide_eq_false_iff_not]; omega) | (rw [decide_eq_decide]; omega))
theorem bits_tab : ∀ b0 b1 b2 b3 w : Bool, (List.range 6).all (fun k => decide (Go.bits .and .i64 (orIf b0 (orIf b1 (orIf b2 (orIf b3 (if w = true then 32 else 64) 10) 20) 8) 16 / 2 ^ (k + 1)) 1 = 1) == (if k = 0 then b3 else if k = 1 then b2 else if k = 2 then (b3 || b1) else if k = 3 then (b2 || b0) else if k = 4 then w else !w)) = true := by decide +kernel
theorem word_neg : wordB (-1) = false := by decide
/-- What is asserted, as the document says it. -/
theorem holds_doc (kind : Nat) (h1 : 1 ≤ kind) (h6 : kind ≤ 6) (t : ByteArray) (a : Int) (h0 : 0 ≤ a) (ha : a ≤ t.size) : holdsV (kind : Int) t a =
    if kind = 1 then decide (a = 0) else if kind = 2 then decide (a = t.size) else if kind = 3 then (decide (a = 0) || (aheadV t a == 10)) else if kind = 4 then (decide (a = t.size) || (behindV t a == 10)) else if kind = 5 then (wordB (aheadV t a) != wordB (behindV t a)) else (wordB (aheadV t a) == wordB (behindV t a)) := by
  have ea : (aheadV t a == -1) = decide (a = 0) := by
    unfold aheadV
    have := bt_range t (a - 1)
    by_cases g : 0 < a
    · rw [if_pos g, decide_eq_false (by omega), beq_eq_false_iff_ne]; omega
    · rw [if_neg g, decide_eq_true (by omega)]; rfl
  have eb : (behindV t a == -1) = decide (a = t.size) := by
    unfold behindV
    have := bt_range t a
    by_cases g : a < t.size
    · rw [if_pos g, decide_eq_false (by omega), beq_eq_false_iff_ne]; omega
    · rw [if_neg g, decide_eq_true (by omega)]; rfl
  unfold holdsV betweenV
  rw [Int.toNat_natCast, ea, eb]
  have ht := bits_tab (behindV t a == 10) (aheadV t a == 10) (decide (a = t.size)) (decide (a = 0)) (wordB (aheadV t a) != wordB (behindV t a))
  rw [List.all_eq_true] at ht
  have := ht (kind - 1) (List.mem_range.2 (by omega))
  rw [show kind - 1 + 1 = kind by omega, beq_iff_eq] at this
  rw [this]
  rcases (show kind = 1 ∨ kind = 2 ∨ kind = 3 ∨ kind = 4 ∨ kind = 5 ∨ kind = 6 by omega) with rfl | rfl | rfl | rfl | rfl | rfl <;> simp
  cases wordB (aheadV t a) <;> cases wordB (behindV t a) <;> rfl
set_option maxHeartbeats 4000000 in
set_option maxRecDepth 20000 in
theorem refholds_at (kind : Nat) (h1 : 1 ≤ kind) (h6 : kind ≤ 6) (t : ByteArray) (a : Nat) (ha : a ≤ t.size) (hn : t.size ≤ 1000000) (w : World) : Calls Try.prog 70 #[.int .i64 kind, .string t, .int .i64 a] w fun e w' => e = .returned (.bool (holdsV (kind : Int) t (a : Int))) ∧ Below w.heap.size w w' := by
  have HW := Aside0.mk (fun (c : Int) w => burinref12_Word.calls c _ w (word_f c))
  have HD := holds_doc kind h1 h6 t (a : Int) (by omega) (by omega)
  have HB := Aside0.mk (Below.refl w.heap.size w)
  rw [HD]
  clear HD
  unfold aheadV behindV
  by_cases g1 : a = 0
  · subst g1
    by_cases g2 : t.size = 0
    · skip
      rw [if_neg (show ¬ (0 : Int) < ((0 : Nat) : Int) by omega)]
      rw [if_neg (show ¬ ((0 : Nat) : Int) < (t.size : Int) by omega)]
      have y0 : ((0 : Int) == (t.size : Int)) = true := beq_iff_eq.2 (by omega)
      have y1 : decide (((0 : Nat) : Int) = (t.size : Int)) = true := decide_eq_true (by omega)
      rw [y1]
      have HK := Aside0.mk (show kind = 1 ∨ kind = 2 ∨ kind = 3 ∨ kind = 4 ∨ kind = 5 ∨ kind = 6 by omega)
      clear h1 h6 ha hn y1
      rcases HK.out with rfl | rfl | rfl | rfl | rfl | rfl
      all_goals
        (go_enter Try.func70, Try.ntmps70
         go_wp2_with fail
         go_ret
         exact ⟨by first | rfl | (simp [word_neg]; done) | (rw [word_neg]; simp; done), HB.out⟩)
    · skip
      rw [if_neg (show ¬ (0 : Int) < ((0 : Nat) : Int) by omega)]
      rw [if_pos (show ((0 : Nat) : Int) < (t.size : Int) by omega)]
      have p2 : ((0 : Int) ≤ ((0 : Nat) : Int)) = True := eq_true (by omega)
      have r2 : (((0 : Nat) : Int) < (t.size : Int)) = True := eq_true (by omega)
      have r3 : (0 < t.size) = True := eq_true (by omega)
      have hx2 : ∀ h : 0 < t.size, ((t[0]'h).toNat : Int) = bt t ((0 : Nat) : Int) := fun h => bt_at t ((0 : Nat) : Int) h
      have hw2 : wrap64 (bt t ((0 : Nat) : Int)) = bt t ((0 : Nat) : Int) := by unfold wrap64; have := bt_range t ((0 : Nat) : Int); omega
      generalize bt t ((0 : Nat) : Int) = y at hx2 hw2
      have y0 : ((0 : Int) == (t.size : Int)) = false := beq_eq_false_iff_ne.2 (by omega)
      have y1 : decide (((0 : Nat) : Int) = (t.size : Int)) = false := decide_eq_false (by omega)
      rw [y1]
      have HK := Aside0.mk (show kind = 1 ∨ kind = 2 ∨ kind = 3 ∨ kind = 4 ∨ kind = 5 ∨ kind = 6 by omega)
      clear h1 h6 ha hn y1
      rcases HK.out with rfl | rfl | rfl | rfl | rfl | rfl
      all_goals
        (go_enter Try.func70, Try.ntmps70
         go_wp2_with fail
         refine (HW.out _ _).mono ?_
         rintro e w1 ⟨rfl, hd1⟩
         obtain ⟨n1, rfl⟩ := hd1.out
         clear hd1
         go_wp2_with fail
         go_ret
         exact ⟨by first | rfl | (simp [word_neg]; done) | (rw [word_neg]; simp; done), pw_below_drewN HB.out _⟩)
  · by_cases g2 : a = t.size
    · subst g2
      rw [if_pos (show (0 : Int) < (t.size : Int) by omega)]
      obtain ⟨i, hi⟩ : ∃ i : Int, (t.size : Int) - 1 = i := ⟨_, rfl⟩
      rw [hi]
      have hiw : IntKind.i64.wrap ((t.size : Int) - 1) = i := by rw [IntKind.wrap_i64]; omega
      have p1 : (0 ≤ i) = True := eq_true (by omega)
      have r1 : (i < (t.size : Int)) = True := eq_true (by omega)
      have hx1 := bt_at t i
      have hw1 : wrap64 (bt t i) = bt t i := by unfold wrap64; have := bt_range t i; omega
      generalize bt t i = x at hx1 hw1
      have z0 : ((t.size : Int) == 0) = false := beq_eq_false_iff_ne.2 (by omega)
      have z1 : decide ((t.size : Int) = 0) = false := decide_eq_false (by omega)
      rw [z1]
      rw [if_neg (show ¬ (t.size : Int) < (t.size : Int) by omega)]
      have y0 : ((t.size : Int) == (t.size : Int)) = true := beq_iff_eq.2 (by omega)
      have y1 : decide ((t.size : Int) = (t.size : Int)) = true := decide_eq_true (by omega)
      rw [y1]
      have HK := Aside0.mk (show kind = 1 ∨ kind = 2 ∨ kind = 3 ∨ kind = 4 ∨ kind = 5 ∨ kind = 6 by omega)
      clear h1 h6 ha hn y1 g1 hi z1 y0
      rcases HK.out with rfl | rfl | rfl | rfl | rfl | rfl
      all_goals
        (go_enter Try.func70, Try.ntmps70
         go_wp2_with fail
         refine (HW.out _ _).mono ?_
         rintro e w1 ⟨rfl, hd1⟩
         obtain ⟨n1, rfl⟩ := hd1.out
         clear hd1
         go_wp2_with fail
         go_ret
         exact ⟨by first | rfl | (simp [word_neg]; done) | (rw [word_neg]; simp; done), pw_below_drewN HB.out _⟩)
    · skip
      rw [if_pos (show (0 : Int) < (a : Int) by omega)]
      obtain ⟨i, hi⟩ : ∃ i : Int, (a : Int) - 1 = i := ⟨_, rfl⟩
      rw [hi]
      have hiw : IntKind.i64.wrap ((a : Int) - 1) = i := by rw [IntKind.wrap_i64]; omega
      have p1 : (0 ≤ i) = True := eq_true (by omega)
      have r1 : (i < (t.size : Int)) = True := eq_true (by omega)
      have hx1 := bt_at t i
      have hw1 : wrap64 (bt t i) = bt t i := by unfold wrap64; have := bt_range t i; omega
      generalize bt t i = x at hx1 hw1
      have z0 : ((a : Int) == 0) = false := beq_eq_false_iff_ne.2 (by omega)
      have z1 : decide ((a : Int) = 0) = false := decide_eq_false (by omega)
      rw [z1]
      rw [if_pos (show (a : Int) < (t.size : Int) by omega)]
      have p2 : ((0 : Int) ≤ (a : Int)) = True := eq_true (by omega)
      have r2 : ((a : Int) < (t.size : Int)) = True := eq_true (by omega)
      have r3 : (a < t.size) = True := eq_true (by omega)
      have hx2 : ∀ h : a < t.size, ((t[a]'h).toNat : Int) = bt t (a : Int) := fun h => bt_at t (a : Int) h
      have hw2 : wrap64 (bt t (a : Int)) = bt t (a : Int) := by unfold wrap64; have := bt_range t (a : Int); omega
      generalize bt t (a : Int) = y at hx2 hw2
      have y0 : ((a : Int) == (t.size : Int)) = false := beq_eq_false_iff_ne.2 (by omega)
      have v0 : decide ((a : Int) < 0) = false := decide_eq_false (by omega)
      have v1 : decide (t.size < a) = false := decide_eq_false (by omega)
      have v2 : decide ((t.size : Int) < (a : Int)) = false := decide_eq_false (by omega)
      have y1 : decide ((a : Int) = (t.size : Int)) = false := decide_eq_false (by omega)
      rw [y1]
      have HK := Aside0.mk (show kind = 1 ∨ kind = 2 ∨ kind = 3 ∨ kind = 4 ∨ kind = 5 ∨ kind = 6 by omega)
      clear h1 h6 ha hn y1 g1 hi z1
      rcases HK.out with rfl | rfl | rfl | rfl | rfl | rfl
      all_goals
        (go_enter Try.func70, Try.ntmps70
         go_wp2_with fail
         refine (HW.out _ _).mono ?_
         rintro e w1 ⟨rfl, hd1⟩
         obtain ⟨n1, rfl⟩ := hd1.out
         clear hd1
         go_wp2_with fail
         refine (HW.out _ _).mono ?_
         rintro e w2 ⟨rfl, hd2⟩
         obtain ⟨n2, rfl⟩ := hd2.out
         clear hd2
         go_wp2_with fail
         go_ret
         exact ⟨by first | rfl | (simp [word_neg]; done) | (rw [word_neg]; simp; done), pw_below_drewN HB.out _⟩)
/-! The document's search, where it lies. -/
abbrev WV := Int × (Option Addr × Nat × Nat)
def sV (s : Option Addr × Nat × Nat) : Value := .slice s.1 s.2.1 s.2.2
def kWay : Kd WV := Kd.pair (Kd.int .i64) (Kd.scalar sV (fun _ => rfl))
def encWay (z : WV) : List Value := [.int .i64 z.1, .slice z.2.1 z.2.2.1 z.2.2.2]
theorem kWay_fixed : Fixed kWay encWay where
  len _ := rfl
  out h := by
    obtain ⟨_, _, rfl, rfl, rfl⟩ := h
    rfl
  make _ _ _ x := ⟨[_], _, rfl, rfl, rfl⟩
theorem kWay_K {w : World} {x : WV} {cs : List Value} (h : kWay.K w x cs) : cs = encWay x := by
  obtain ⟨_, _, rfl, rfl, rfl⟩ := h
  rfl
/-- A row of ints in a block of its own. -/
def SlotI (W : World) (v : Value) (sl : List Int) : Prop := ∃ A c, v = .slice A sl.length c ∧ sl.length ≤ c ∧ Kd.C (Kd.int .i64) W A sl.length sl ∧ ∀ p : Addr, A = some p → ∃ cells, W.heap[p.block]? = some (.cells cells 3 (0, 0))
theorem slot_of_R {W : World} {base : Nat} {ok : Nat → Prop} {v : Value} {sl : List Int} (h : Kd.R (Kd.int .i64) 3 W base ok v sl) : SlotI W v sl := by
  obtain ⟨A, c, rfl⟩ := Kd.R_slice h
  obtain ⟨_, h2, h3⟩ := Kd.R_reads' h
  obtain ⟨_, inner, ho, _⟩ := h
  refine ⟨A, c, rfl, h2, h3, fun p hp => ?_⟩
  subst hp
  exact own_typed ho p.block rfl
/-- What stands in blocks of other types stays. -/
def FrameR (W W' : World) : Prop := ∀ (k : Nat) (cells : Array Value) (q : TypeId), W.heap[k]? = some (.cells cells q (0, 0)) → q ≠ 110 → q ≠ 136 → q ≠ 4 → W'.heap[k]? = W.heap[k]?
theorem FrameR.refl (W : World) : FrameR W W := fun _ _ _ _ _ _ _ => rfl
theorem FrameR.trans {a b c : World} (h : FrameR a b) (k : FrameR b c) : FrameR a c := fun i cells q hi h1 h2 h3 => (k i cells q ((h i cells q hi h1 h2 h3).trans hi) h1 h2 h3).trans (h i cells q hi h1 h2 h3)
theorem FrameR.below {a b : World} (h : Below a.heap.size a b) : FrameR a b := fun i cells q hi _ _ _ => h.block i (blk_lt hi)
theorem SlotI.frame {W W' : World} {v : Value} {sl : List Int} (h : SlotI W v sl) (hF : FrameR W W') : SlotI W' v sl := by
  obtain ⟨A, c, rfl, h1, h2, h3⟩ := h
  have hk : ∀ p : Addr, A = some p → W'.heap[p.block]? = W.heap[p.block]? := fun p hp => by
    obtain ⟨cells, hc⟩ := h3 p hp
    exact hF _ _ _ hc (by decide) (by decide) (by decide)
  refine ⟨A, c, rfl, h1, C_moveI h2 hk, fun p hp => ?_⟩
  obtain ⟨cells, hc⟩ := h3 p hp
  exact ⟨cells, (hk p hp).trans hc⟩
/-- Ways, and what stands for them. -/
def WaysOk (W : World) : List WV → Ways → Prop
  | [], [] => True
  | z :: zs, w :: ws => (z.1 = (w.1 : Int) ∧ SlotI W (sV z.2) w.2) ∧ WaysOk W zs ws
  | _, _ => False
theorem WaysOk.frame {W W' : World} (hF : FrameR W W') : ∀ {zs : List WV} {ws : Ways}, WaysOk W zs ws → WaysOk W' zs ws
  | [], [], _ => trivial
  | z :: zs, w :: ws, h => ⟨⟨h.1.1, h.1.2.frame hF⟩, WaysOk.frame hF h.2⟩
  | [], _ :: _, h => h.elim
  | _ :: _, [], h => h.elim
theorem WaysOk.len {W : World} : ∀ {zs : List WV} {ws : Ways}, WaysOk W zs ws → zs.length = ws.length
  | [], [], _ => rfl
  | z :: zs, w :: ws, h => by rw [List.length_cons, List.length_cons, WaysOk.len h.2]
  | [], _ :: _, h => h.elim
  | _ :: _, [], h => h.elim
theorem WaysOk.app {W : World} {z : WV} {w : Nat × List Int} (h1 : z.1 = (w.1 : Int) ∧ SlotI W (sV z.2) w.2) : ∀ {zs : List WV} {ws : Ways}, WaysOk W zs ws → WaysOk W (zs ++ [z]) (ws ++ [w])
  | [], [], _ => ⟨h1, trivial⟩
  | _ :: _, _ :: _, h => ⟨h.1, WaysOk.app h1 h.2⟩
  | [], _ :: _, h => h.elim
  | _ :: _, [], h => h.elim
theorem WaysOk.at {W : World} : ∀ {zs : List WV} {ws : Ways}, WaysOk W zs ws → ∀ i, i < zs.length → (zs.getD i (0, none, 0, 0)).1 = ((ws.getD i (0, [])).1 : Int) ∧ SlotI W (sV (zs.getD i (0, none, 0, 0)).2) (ws.getD i (0, [])).2
  | [], [], _, i, hi => absurd hi (Nat.not_lt_zero _)
  | _ :: _, _ :: _, h, 0, _ => h.1
  | _ :: zs, _ :: ws, h, i + 1, hi => WaysOk.at h.2 i (Nat.lt_of_succ_lt_succ hi)
  | [], _ :: _, h, _, _ => h.elim
  | _ :: _, [], h, _, _ => h.elim
def boolCells (bs : List Bool) : Array Value := (bs.map Value.bool).toArray
/-- A walk, where it lies: behind 'base'. -/
structure RefI (W : World) (base gk gs : Nat) (A0 : Option Addr) (c0 : Nat) (l : List I5) (a b : Int) (t : ByteArray) (vw : Value) (bs : List Bool) (zs : List WV) (S : List Nat) (ws : Ways) : Prop where
  hW : W.heap[gk]? = some (.cells #[.slice A0 l.length c0, .int .i64 a, .int .i64 b, .string t, vw, .slice (some ⟨gs, 0, none⟩) bs.length bs.length] 110 (0, 0))
  hS : W.heap[gs]? = some (.cells (boolCells bs) 4 (0, 0))
  bk : base ≤ gk
  bg : base ≤ gs
  hl : bs.length = l.length * (t.size + 1)
  hm : ∀ k, k < bs.length → (bs.getD k false = true ↔ k ∈ S)
  hR : Kd.R kWay 136 W base (fun _ => True) vw zs
  hZ : WaysOk W zs ws
  hP : ∃ w0, Kd.C kIn w0 A0 l.length l ∧ w0.heap.size ≤ base ∧ Below w0.heap.size w0 W
theorem info_way : (Try.prog.info? 136).map (fun i => (i.zero, i.size, i.bytes)) = some (some (.agg #[.int .i64 0, .slice none 0 0]), 2, 32) := by kernel_rfl
theorem any_false {ws : Ways} {e : Nat} (h : ∀ i, i < ws.length → (ws.getD i (0, [])).1 ≠ e) : ws.any (fun w => w.1 == e) = false := by
  rw [List.any_eq_false]
  intro w hw
  obtain ⟨i, hi, rfl⟩ := List.getElem_of_mem hw
  have := h i hi
  rw [List.getD_eq_getElem?_getD, List.getElem?_eq_getElem hi] at this
  simpa using this
theorem any_true {ws : Ways} {e i : Nat} (hi : i < ws.length) (h : (ws.getD i (0, [])).1 = e) : ws.any (fun w => w.1 == e) = true := by
  rw [List.any_eq_true]
  refine ⟨ws[i], List.getElem_mem hi, ?_⟩
  rw [List.getD_eq_getElem?_getD, List.getElem?_eq_getElem hi] at h
  simpa using h
theorem RefI.push {W w2 : World} {base gk gs : Nat} {A0 : Option Addr} {c0 : Nat} {l : List I5} {a b : Int} {t : ByteArray} {Aw : Option Addr} {n cw : Nat} {bs : List Bool} {zs : List WV} {S : List Nat} {ws : Ways} (h : RefI W base gk gs A0 c0 l a b t (.slice Aw n cw) bs zs S ws) {v1 : Value} {z : WV} {w : Nat × List Int} (ho : Kd.R kWay 136 w2 base (fun _ => True) v1 (zs ++ [z])) (hb : Below base W w2) (hg : W.grownBy w2 (Value.slice Aw n cw).ownBlock) (hz : z.1 = (w.1 : Int) ∧ SlotI W (sV z.2) w.2) :
    RefI (w2.setCell ⟨gk, 4, none⟩ v1) base gk gs A0 c0 l a b t v1 bs (zs ++ [z]) S (ws ++ [w]) ∧ FrameR W (w2.setCell ⟨gk, 4, none⟩ v1) ∧ Below base W (w2.setCell ⟨gk, 4, none⟩ v1) ∧ w2.heap[gk]? = W.heap[gk]? := by
  have notw : ∀ {k : Nat} {cells : Array Value} {e : Nat}, W.heap[k]? = some (.cells cells e (0, 0)) → e ≠ 136 → w2.heap[k]? = W.heap[k]? := fun hc he => hg.block _ (blk_lt hc) (Kd.R_ne h.hR hc (Ne.symm he))
  have hgk := notw h.hW (by decide)
  have hgs := notw h.hS (by decide)
  have far : ∀ k, k ≠ gk → (w2.setCell ⟨gk, 4, none⟩ v1).heap[k]? = w2.heap[k]? := fun k hk => Below.heap_setCell _ _ _ _ hk
  have hF : FrameR W (w2.setCell ⟨gk, 4, none⟩ v1) := fun i cells q hi h1 h2 _ => (far i (blk_ne hi h.hW h1)).trans (notw hi h2)
  have hB : Below base W (w2.setCell ⟨gk, 4, none⟩ v1) := hb.setCell (p := ⟨gk, 4, none⟩) h.bk _
  obtain ⟨w0, p1, p2, p3⟩ := h.hP
  refine ⟨⟨blk_put (hgk.trans h.hW) 4 _ rfl, (far gs (blk_ne h.hS h.hW (by decide))).trans (hgs.trans h.hS), h.bk, h.bg, h.hl, h.hm, ?_, WaysOk.app ⟨hz.1, hz.2.frame hF⟩ (h.hZ.frame hF), ⟨w0, p1, p2, p3.trans (hB.mono p2)⟩⟩, hF, hB, hgk⟩
  refine (fixed_R kWay_fixed).2 ?_
  have := (fixed_R kWay_fixed).1 ho
  refine ⟨this.1, own_move this.2 (fun i hi => far i (fun e => ?_))⟩
  subst e
  exact Kd.R_ne ho (hgk.trans h.hW) (by decide) hi.symm
def EndPost (W : World) (base gk gs : Nat) (A0 : Option Addr) (c0 : Nat) (l : List I5) (a b : Int) (t : ByteArray) (bs : List Bool) (S : List Nat) (ws : Ways) (e : Ending) (W' : World) : Prop :=
  e = .returned (.tuple #[]) ∧ (∃ vw zs, RefI W' base gk gs A0 c0 l a b t vw bs zs S ws) ∧ FrameR W W' ∧ Below base W W'
set_option maxHeartbeats 4000000 in
set_option maxRecDepth 20000 in
theorem end_at {W : World} {base gq gs : Nat} {A0 : Option Addr} {c0 : Nat} {l : List I5} {a b : Int} {t : ByteArray} {vw vs : Value} {bs : List Bool} {zs : List WV} {S : List Nat} {ws : Ways} (h : RefI W base gq gs A0 c0 l a b t vw bs zs S ws) (hn : ws.length ≤ 262144) (e : Nat) {sl : List Int} (hs : SlotI W vs sl) :
    Calls Try.prog 71 #[.pointer (some ⟨gq, 0, none⟩), .int .i64 e, vs] W (EndPost W base gq gs A0 c0 l a b t bs S (addWay ws e sl)) := by
  have HPO := Aside0.mk (show EndPost W base gq gs A0 c0 l a b t bs S (addWay ws e sl) = fun e' W' => e' = .returned (.tuple #[]) ∧ (∃ vw zs, RefI W' base gq gs A0 c0 l a b t vw bs zs S (addWay ws e sl)) ∧ FrameR W W' ∧ Below base W W' from rfl)
  generalize EndPost W base gq gs A0 c0 l a b t bs S (addWay ws e sl) = PO at HPO ⊢
  obtain ⟨Aw, cw, rfl⟩ := Kd.R_slice h.hR
  have hzl := h.hZ.len
  obtain ⟨n, hnz⟩ : ∃ n, zs.length = n := ⟨_, rfl⟩
  have HNZ := Aside0.mk hnz
  have HH := Aside0.mk h
  rw [hnz] at HH
  have HS := Aside0.mk hs
  have e4 : W.cell? ⟨gq, 4, none⟩ = some (.slice Aw n cw) := by rw [← hnz]; exact (blk_cell h.hW 4).trans rfl
  have HBS := Aside0.mk (show base ≤ W.heap.size from Nat.le_trans h.bk (Nat.le_of_lt (blk_lt h.hW)))
  have hn2 : n ≤ 262144 := by omega
  have HZL := Aside0.mk (show n = ws.length by omega)
  have HAT := Aside0.mk (fun (i : Nat) (hi : i < n) => show ∃ g, Aw = some ⟨g, 0, none⟩ ∧ W.cell? ⟨g, i * 2, none⟩ = some (.int .i64 ((ws.getD i (0, [])).1 : Int)) from by
    obtain ⟨g, c, hform, -, -, -⟩ := Kd.R_form h.hR (by omega)
    injection hform with hf1 _ _
    subst hf1
    obtain ⟨ad, cs, had, hcl, hK, hcell⟩ := ReadsRow.get_ (Kd.R_reads' h.hR).2.2 (0, none, 0, 0) (i : Int) (by omega) (by omega)
    obtain rfl := (Option.some.inj had).symm
    have hK' := kWay_K hK
    subst hK'
    have h0 := hcell 0 _ rfl
    rw [Int.toNat_natCast, add_plain] at h0
    refine ⟨g, rfl, ?_⟩
    rw [← (h.hZ.at i (by omega)).1]
    exact h0)
  clear h hs hzl hnz hn
  go_enter Try.func71, Try.ntmps71
  go_wp2_with fail
  go_loopg [6] (n + 1) (fun gh s6 wr => ∃ i : Nat, i ≤ n ∧ n - i ≤ gh ∧ s6 = .int .i64 i ∧ W = wr ∧ Aside0 (∀ j, j < i → (ws.getD j (0, [])).1 ≠ e))
  case atStart => exact ⟨0, by omega, by omega, rfl, rfl, ⟨fun j hj => absurd hj (Nat.not_lt_zero _)⟩⟩
  case round =>
    obtain ⟨i, hi, hgh, rfl, rfl, HN⟩ := hrel
    by_cases hlt : i < n
    · obtain ⟨g, rfl, hc⟩ := HAT.out i hlt
      have q1 : (i : Int) < (n : Int) := by omega
      by_cases he : (ws.getD i (0, [])).1 = e
      · have HE := Aside0.mk (any_true (by rw [← HZL.out]; exact hlt) he)
        rw [he] at hc
        clear he
        go_wp2_with fail
        go_end0
        rw [HPO.out, show addWay ws e sl = ws by unfold addWay; rw [HE.out, if_pos rfl]]
        exact ⟨rfl, ⟨_, _, HH.out⟩, FrameR.refl _, Below.refl _ _⟩
      · have q2 : (((ws.getD i (0, [])).1 : Int) == (e : Int)) = false := beq_eq_false_iff_ne.2 (by omega)
        have HE := Aside0.mk he
        generalize (ws.getD i (0, [])).1 = y at hc q2
        clear he
        go_wp2_with fail
        go_roundg (n - (i + 1))
        case measure => omega
        case rel => exact ⟨i + 1, by omega, by omega, rfl, rfl, ⟨fun j hj => by
          by_cases hj2 : j < i
          · exact HN.out j hj2
          · obtain rfl : j = i := by omega
            exact HE.out⟩⟩
    · obtain rfl : i = n := by omega
      have HA := Aside0.mk (any_false (fun j hj => HN.out j (by rw [HZL.out]; exact hj)))
      obtain ⟨As, cs, rfl, hcs, hCs, hTs⟩ := HS.out
      clear hlt HN hi hgh hcs hCs hTs
      obtain ⟨m, hm⟩ : ∃ m, sl.length = m := ⟨_, rfl⟩
      rw [hm] at HS ⊢
      have HM := Aside0.mk hm
      clear hm
      have HLI := Aside0.mk (show zs.length = i from HNZ.out)
      have HBW := Aside0.mk (Below.refl base W)
      clear e4
      have e4 : W.cell? ⟨gq, 4, none⟩ = some (.slice Aw i cw) := (blk_cell HH.out.hW 4).trans rfl
      have HG4 := Aside0.mk HH.out.hW
      have hgkl := blk_lt HH.out.hW
      have hx4 : ∀ o, (W.alloc o).cell? ⟨gq, 4, none⟩ = some (.slice Aw i cw) := fun o => (World.cell?_alloc_lt W o ⟨gq, 4, none⟩ hgkl).trans e4
      go_wp2_with (first | (at_builtin; refine Kd.R_append kWay (w0 := W) (W := W) base rfl (.tmp 30) (.tmp 34) 108 136 (.agg #[.int .i64 0, .slice none 0 0]) 32 rfl Try.underlying108 info_way rfl (by decide) (by omega) (.slice Aw i cw) zs ((e : Int), (As, m, cs)) [.int .i64 (e : Int), .slice As m cs] (fun _ => True) (fun _ => False) rfl ?aX ?aP (fun _ hk => hk.elim) (fun _ _ => trivial) ?aO ?aB ?aS ?aL ?_; (case aX => (first | rfl | (simp [Act.eval]; done) | (simp [Act.eval] <;> rfl))); (case aP => exact kWay_fixed.make _ _ _ (((e : Int), (As, m, cs)) : WV)); (case aO => exact HH.out.hR); (case aB => exact HBW.out); (case aS => exact HBS.out); (case aL => rw [HLI.out]; omega); intro v1 w2 ho hb hg hat; obtain ⟨A1, c1, e1⟩ := Kd.R_slice ho; obtain ⟨n1, hn1⟩ : ∃ n1, (zs ++ [(((e : Int), (As, m, cs)) : WV)]).length = n1 := ⟨_, rfl⟩; rw [hn1] at e1; subst e1; obtain ⟨hw2, hf2, hb2, hk2⟩ := HH.out.push (w := (e, sl)) ho hb hg ⟨rfl, HS.out⟩; have HW2 := Aside0.mk hw2; have HF2 := Aside0.mk hf2; have HB2 := Aside0.mk hb2; have f4 : w2.frozen? ⟨gq, 4, none⟩ = false := blk_frozen (hk2.trans HG4.out) 4; have f4c : w2.cell? ⟨gq, 4, none⟩ = some (.slice Aw i cw) := (blk_cell (hk2.trans HG4.out) 4).trans rfl; clear ho hb hg hat hw2 hf2 hb2 hk2))
      go_end0
      rw [HPO.out, show addWay ws e sl = ws ++ [(e, sl)] by unfold addWay; rw [HA.out, if_neg (by decide)]]
      exact ⟨rfl, ⟨_, _, HW2.out⟩, HF2.out, HB2.out⟩
theorem dfs_keep {mv : Nat → Nat → Mv} {W N : Nat} (hF : Fits mv W N) : ∀ (f : Nat) {S ws pc a sl r}, dfs mv W f S ws pc a sl = some r → pc < N → a < W → Small W N S → ws.length ≤ S.length → Small W N r.1 ∧ r.2.length ≤ r.1.length
  | 0, _, _, _, _, _, _, h, _, _, _, _ => by cases h
  | f + 1, S, ws, pc, a, sl, r, h, hp, ha, hS, hl => by
    have hf := hF pc a hp ha
    unfold dfs at h
    split at h
    · cases h; exact ⟨hS, hl⟩
    · rename_i g
      have hS2 : Small W N ((pc * W + a) :: S) := ⟨List.nodup_cons.2 ⟨g, hS.1⟩, fun k hk => by
        rcases List.mem_cons.1 hk with rfl | hk
        · exact idx_lt W hp ha
        · exact hS.2 k hk⟩
      have l1 : ((pc * W + a) :: S).length = S.length + 1 := rfl
      cases hm : mv pc a with
      | stop => rw [hm] at h; cases h; exact ⟨hS2, by simp only [l1]; omega⟩
      | one p q => rw [hm] at h hf; exact dfs_keep hF f h hf.1 hf.2 hS2 (by omega)
      | cap c p q => rw [hm] at h hf; exact dfs_keep hF f h hf.1 hf.2 hS2 (by omega)
      | done =>
        rw [hm] at h
        cases h
        refine ⟨hS2, ?_⟩
        show (addWay ws a sl).length ≤ _
        unfold addWay
        split
        · simp only [List.length_cons]; omega
        · simp only [List.length_append, List.length_cons, List.length_nil]; omega
      | two p q c =>
        rw [hm] at h hf
        obtain ⟨x, hx, h'⟩ := Option.bind_eq_some_iff.1 h
        obtain ⟨h1, h2⟩ := dfs_keep hF f hx hf.1 hf.2.2 hS2 (by omega)
        exact dfs_keep hF f h' hf.2.1 hf.2.2 h1 h2
theorem RefI.mark {W : World} {base gk gs : Nat} {A0 : Option Addr} {c0 : Nat} {l : List I5} {a b : Int} {t : ByteArray} {vw : Value} {bs : List Bool} {zs : List WV} {S : List Nat} {ws : Ways} (h : RefI W base gk gs A0 c0 l a b t vw bs zs S ws) {k : Nat} (hk : k < bs.length) :
    RefI (W.setCell ⟨gs, k, none⟩ (.bool true)) base gk gs A0 c0 l a b t vw (bs.set k true) zs (k :: S) ws ∧ FrameR W (W.setCell ⟨gs, k, none⟩ (.bool true)) ∧ Below base W (W.setCell ⟨gs, k, none⟩ (.bool true)) := by
  have hF : FrameR W (W.setCell ⟨gs, k, none⟩ (.bool true)) := fun i cells q hi _ _ h3 => Below.heap_setCell _ _ _ _ (blk_ne hi h.hS h3)
  have hB : Below base W (W.setCell ⟨gs, k, none⟩ (.bool true)) := (Below.refl _ _).setCell (p := ⟨gs, k, none⟩) h.bg _
  obtain ⟨w0, p1, p2, p3⟩ := h.hP
  refine ⟨⟨?_, ?_, h.bk, h.bg, by rw [List.length_set]; exact h.hl, fun j hj => ?_, ?_, h.hZ.frame hF, ⟨w0, p1, p2, p3.trans (hB.mono p2)⟩⟩, hF, hB⟩
  · rw [List.length_set, Below.heap_setCell _ _ _ _ (show gk ≠ gs from blk_ne h.hW h.hS (by decide))]
    exact h.hW
  · refine blk_put h.hS k _ ?_
    unfold boolCells
    rw [List.setIfInBounds_toArray, List.map_set]
  · rw [List.length_set] at hj
    by_cases e : j = k
    · subst e
      rw [List.getD_eq_getElem?_getD, List.getElem?_set_self hk]
      simp
    · rw [List.getD_eq_getElem?_getD, List.getElem?_set_ne (Ne.symm e), ← List.getD_eq_getElem?_getD, h.hm j hj, List.mem_cons]
      simp [e]
  · refine (fixed_R kWay_fixed).2 ?_
    have := (fixed_R kWay_fixed).1 h.hR
    refine ⟨this.1, own_move this.2 (fun i hi => ?_)⟩
    obtain ⟨cells, hc⟩ := own_typed this.2 i hi
    exact Below.heap_setCell _ _ _ _ (blk_ne hc h.hS (by decide))
theorem RefI.below {W W' : World} {base gk gs : Nat} {A0 : Option Addr} {c0 : Nat} {l : List I5} {a b : Int} {t : ByteArray} {vw : Value} {bs : List Bool} {zs : List WV} {S : List Nat} {ws : Ways} (h : RefI W base gk gs A0 c0 l a b t vw bs zs S ws) (hb : Below W.heap.size W W') : RefI W' base gk gs A0 c0 l a b t vw bs zs S ws := by
  obtain ⟨w0, p1, p2, p3⟩ := h.hP
  exact ⟨(hb.block gk (blk_lt h.hW)).trans h.hW, (hb.block gs (blk_lt h.hS)).trans h.hS, h.bk, h.bg, h.hl, h.hm, Kd.R_below h.hR hb, h.hZ.frame (FrameR.below hb), ⟨w0, p1, p2, p3.trans (hb.mono p3.size)⟩⟩
def GoPost (W : World) (base gk gs : Nat) (A0 : Option Addr) (c0 : Nat) (l : List I5) (a b : Int) (t : ByteArray) (r : List Nat × Ways) (e : Ending) (W' : World) : Prop :=
  e = .returned (.tuple #[]) ∧ (∃ vw bs zs, RefI W' base gk gs A0 c0 l a b t vw bs zs r.1 r.2) ∧ FrameR W W' ∧ Below base W W'
set_option maxHeartbeats 8000000 in
set_option maxRecDepth 20000 in
theorem go_ref {l : List I5} {a0 b : Int} (hP : ProgOk l a0 b) (t : ByteArray) (hsz : l.length * (t.size + 1) ≤ 262144) {base gk gs : Nat} {A0 : Option Addr} {c0 : Nat} : ∀ (f : Nat) {W : World} {vw : Value} {bs : List Bool} {zs : List WV} {S : List Nat} {ws : Ways} {pc a : Nat} {sl : List Int} {vs : Value} {r : List Nat × Ways}, dfs (mvP l t) (t.size + 1) f S ws pc a sl = some r → RefI W base gk gs A0 c0 l a0 b t vw bs zs S ws → SlotI W vs sl → sl.length = b.toNat → pc < l.length → a ≤ t.size → Small (t.size + 1) l.length S → ws.length ≤ S.length →
    Calls Try.prog 41 #[.pointer (some ⟨gk, 0, none⟩), .int .i64 pc, .int .i64 a, vs] W (GoPost W base gk gs A0 c0 l a0 b t r) := by
  intro f
  induction f with
  | zero => intro W vw bs zs S ws pc a sl vs r h; cases h
  | succ f ih =>
    intro W vw bs zs S ws pc a sl vs r h hI hs hsl hpc ha hsm hwl
    have IH := Aside0.mk @ih
    clear ih
    have HPO := Aside0.mk (show GoPost W base gk gs A0 c0 l a0 b t r = fun e W' => e = .returned (.tuple #[]) ∧ (∃ vw bs zs, RefI W' base gk gs A0 c0 l a0 b t vw bs zs r.1 r.2) ∧ FrameR W W' ∧ Below base W W' from rfl)
    generalize GoPost W base gk gs A0 c0 l a0 b t r = PO at HPO ⊢
    obtain ⟨As, cs, rfl, hcs, hCs, hTs⟩ := id hs
    have HS := Aside0.mk hs
    have HI := Aside0.mk hI
    have HSZ := Aside0.mk hsz
    have HP := Aside0.mk hP
    have HSM := Aside0.mk hsm
    have HWL := Aside0.mk hwl
    have HSL := Aside0.mk hsl
    have HPC := Aside0.mk hpc
    have HA := Aside0.mk ha
    have hkb : pc * (t.size + 1) + a < l.length * (t.size + 1) := idx_lt _ hpc (by omega)
    have m1 : IntKind.i64.wrap ((pc : Int) * ((t.size : Int) + 1)) = ((pc * (t.size + 1) : Nat) : Int) := by rw [show (pc : Int) * ((t.size : Int) + 1) = ((pc * (t.size + 1) : Nat) : Int) by simp, IntKind.wrap_i64]; omega
    have m2 : IntKind.i64.wrap (((pc * (t.size + 1) : Nat) : Int) + (a : Int)) = ((pc * (t.size + 1) + a : Nat) : Int) := by rw [IntKind.wrap_i64]; omega
    have htb : t.size ≤ 262144 := by have h5 : t.size + 1 ≤ l.length * (t.size + 1) := Nat.le_mul_of_pos_left _ (by omega); omega
    have hbl := hI.hl
    have e3 : W.cell? ⟨gk, 3, none⟩ = some (.string t) := (blk_cell hI.hW 3).trans rfl
    have e5 : W.cell? ⟨gk, 5, none⟩ = some (.slice (some ⟨gs, 0, none⟩) bs.length bs.length) := (blk_cell hI.hW 5).trans rfl
    have hHM := hI.hm _ (show pc * (t.size + 1) + a < bs.length by omega)
    have hck : W.cell? ⟨gs, pc * (t.size + 1) + a, none⟩ = some (.bool (bs.getD (pc * (t.size + 1) + a) false)) := by
      refine (blk_cell hI.hS _).trans ?_
      unfold boolCells
      rw [List.getElem?_toArray, List.getElem?_map, List.getD_eq_getElem?_getD, List.getElem?_eq_getElem (show pc * (t.size + 1) + a < bs.length by omega)]
      rfl
    have hfk := blk_frozen hI.hS (pc * (t.size + 1) + a)
    obtain ⟨hI1, hF1, hB1⟩ := hI.mark (k := pc * (t.size + 1) + a) (by omega)
    have HI1 := Aside0.mk hI1
    have HF1 := Aside0.mk hF1
    have HB1 := Aside0.mk hB1
    have HD := Aside0.mk h
    obtain ⟨k, hk⟩ : ∃ k, pc * (t.size + 1) + a = k := ⟨_, rfl⟩
    have HKE := Aside0.mk hk
    rw [hk] at m2 hck hfk hHM HI1 HF1 HB1
    have q1 : (0 : Int) ≤ (k : Int) := by omega
    have q2 : (k : Int) < (bs.length : Int) := by omega
    generalize pc * (t.size + 1) = pr at m1 m2
    clear hs hI hP hsm hwl hsl h hI1 hF1 hB1 hkb hbl hk hcs hCs hTs hsz
    generalize bs.length = nb at e5 q2
    obtain ⟨ns, hns⟩ : ∃ ns, sl.length = ns := ⟨_, rfl⟩
    have HNS := Aside0.mk hns
    rw [hns] at HS ⊢
    clear hns
    cases hseen : bs.getD k false with
    | true =>
      rw [hseen] at hck
      have HIN := Aside0.mk (hHM.1 hseen)
      clear hseen hHM hfk
      go_enter Try.func41, Try.ntmps41
      go_wp2_with fail
      go_end0
      have hd := HD.out
      unfold dfs at hd
      rw [HKE.out, if_pos HIN.out] at hd
      cases hd
      rw [HPO.out]
      exact ⟨rfl, ⟨_, _, _, HI.out⟩, FrameR.refl _, Below.refl _ _⟩
    | false =>
      rw [hseen] at hck
      have HNIN := Aside0.mk (show k ∉ S from fun hh => by rw [hHM.2 hh] at hseen; cases hseen)
      clear hseen hHM
      have hd := HD.out
      unfold dfs at hd
      rw [HKE.out, if_neg HNIN.out] at hd
      have HD1 := Aside0.mk hd
      clear hd HD
      have HSM1 := Aside0.mk (show Small (t.size + 1) l.length (k :: S) from by rw [← HKE.out]; exact small_cons HSM.out HPC.out (Nat.lt_succ_of_le HA.out) (by rw [HKE.out]; exact HNIN.out))
      have HS1 := Aside0.mk (HS.out.frame HF1.out)
      go_enter Try.func41, Try.ntmps41
      go_upto_region 3 with fail
      clear e3 e5 hck hfk m1 m2 q1 q2
      generalize W.setCell ⟨gs, k, none⟩ (.bool true) = w1 at *
      have hpc := HPC.out
      obtain ⟨w0, p1, p2, p3⟩ := HI1.out.hP
      obtain ⟨b', off, hA0, hbw, y0, y1, y2, y3, y4⟩ := inst_at (Kd.C_below p1 p3) hpc
      clear p1 p2 p3
      have e0 : w1.cell? ⟨gk, 0, none⟩ = some (.slice A0 l.length c0) := (blk_cell HI1.out.hW 0).trans rfl
      rw [hA0] at e0
      rw [show l[pc] = instAt l pc by unfold instAt; rw [List.getD_eq_getElem?_getD, List.getElem?_eq_getElem hpc]; rfl] at y0 y1 y2 y3 y4
      have HX := Aside0.mk (HP.out.inst _ (instAt_mem hpc))
      have hmv : mvP l t pc a = if (instAt l pc).1 = 1 then (if a < t.size ∧ (instAt l pc).2.1 ≤ bt t a ∧ bt t a ≤ (instAt l pc).2.2.1 then .one (instAt l pc).2.2.2.1.toNat (a + 1) else .stop) else if (instAt l pc).1 = 2 then .two (instAt l pc).2.2.2.1.toNat (instAt l pc).2.2.2.2.toNat a else if (instAt l pc).1 = 3 then .cap (instAt l pc).2.1.toNat (instAt l pc).2.2.2.1.toNat a else if (instAt l pc).1 = 4 then (if holdsV (instAt l pc).2.1 t a = true then .one (instAt l pc).2.2.2.1.toNat a else .stop) else if (instAt l pc).1 = 5 then .done else .stop := rfl
      have hd := HD1.out
      rw [hmv] at hd
      generalize instAt l pc = x at hd y0 y1 y2 y3 y4 HX
      obtain ⟨op, lo, hi, X, Y⟩ := x
      simp only at hd y0 y1 y2 y3 y4
      have HD2 := Aside0.mk hd
      have hXY := And.intro HX.out.X HX.out.Y
      simp only at hXY
      obtain ⟨X, rfl⟩ := Int.eq_ofNat_of_zero_le hXY.1.1
      obtain ⟨Y, rfl⟩ := Int.eq_ofNat_of_zero_le hXY.2.1
      have HXY := Aside0.mk (show X < l.length ∧ Y < l.length by omega)
      have q3 : (pc : Int) < (l.length : Int) := by omega
      have q4 : (0 : Int) ≤ (pc : Int) := by omega
      clear hd hmv HD1 hXY hpc hA0
      generalize l.length = nl at e0 q3
      go_upto_region 4 with fail
      clear e0 y0 y1 y2 y3 y4 q3 q4
      have hal : Below w1.heap.size w1 (w1.alloc (.cells #[.int .i64 op, .int .i64 lo, .int .i64 hi, .int .i64 (X : Int), .int .i64 (Y : Int)] 52)) := (Below.refl _ w1).alloc (Nat.le_refl _) _
      have hbox := heap_alloc_last w1 (.cells #[.int .i64 op, .int .i64 lo, .int .i64 hi, .int .i64 (X : Int), .int .i64 (Y : Int)] 52)
      have HI4 := Aside0.mk (HI1.out.below hal)
      have HS4 := Aside0.mk (HS1.out.frame (FrameR.below hal))
      have HF4 := Aside0.mk (HF1.out.trans (FrameR.below hal))
      have HB4 := Aside0.mk (HB1.out.trans (hal.mono (Nat.le_trans HI1.out.bk (Nat.le_of_lt (blk_lt HI1.out.hW)))))
      have HN1 := Aside0.mk (show ws.length ≤ (k :: S).length from by have := HWL.out; simp only [List.length_cons]; omega)
      obtain ⟨B, hB⟩ : ∃ B, w1.heap.size = B := ⟨_, rfl⟩
      rw [hB] at hbox ⊢
      generalize w1.alloc (.cells #[.int .i64 op, .int .i64 lo, .int .i64 hi, .int .i64 (X : Int), .int .i64 (Y : Int)] 52) = w4 at hbox HI4 HS4 HF4 HB4 ⊢
      clear hal hB HI1 HS1 HF1 HB1 HI HS
      have HBX := Aside0.mk hbox
      have x0 : w4.cell? ⟨B, 0, none⟩ = some (.int .i64 op) := (blk_cell hbox 0).trans rfl
      have x1 : w4.cell? ⟨B, 1, none⟩ = some (.int .i64 lo) := (blk_cell hbox 1).trans rfl
      have x2 : w4.cell? ⟨B, 2, none⟩ = some (.int .i64 hi) := (blk_cell hbox 2).trans rfl
      have x3 : w4.cell? ⟨B, 3, none⟩ = some (.int .i64 (X : Int)) := (blk_cell hbox 3).trans rfl
      have x4 : w4.cell? ⟨B, 4, none⟩ = some (.int .i64 (Y : Int)) := (blk_cell hbox 4).trans rfl
      have HX3 := Aside0.mk x3
      clear hbox
      rcases (show op = 1 ∨ op = 2 ∨ op = 3 ∨ op = 4 ∨ op = 5 ∨ op = 6 by have := HX.out.op; simp only at this; omega) with rfl | rfl | rfl | rfl | rfl | rfl
      · have hr := HD2.out
        simp only [if_true, Int.toNat_natCast] at hr
        have HR := Aside0.mk hr
        have e3 : w4.cell? ⟨gk, 3, none⟩ = some (.string t) := (blk_cell HI4.out.hW 3).trans rfl
        clear hr HD2 x3 x4
        go_upto_region 6 with fail
        by_cases ga : a < t.size
        · have qn : (a < t.size) = True := eq_true ga
          have qi : ((a : Int) < (t.size : Int)) = True := eq_true (by omega)
          have q0 : ((0 : Int) ≤ (a : Int)) = True := eq_true (by omega)
          have hxn : ∀ h : a < t.size, ((t[a]'h).toNat : Int) = bt t a := fun h => bt_at t (a : Int) h
          have hw1 : wrap64 (bt t a) = bt t a := by unfold wrap64; have := bt_range t a; omega
          have HGA := Aside0.mk ga
          clear ga
          obtain ⟨y, hy⟩ : ∃ y, bt t (a : Int) = y := ⟨_, rfl⟩
          rw [hy] at hxn hw1 HR
          clear hy
          by_cases g1 : lo ≤ y
          · by_cases g2 : y ≤ hi
            · have d1 : decide (lo ≤ y) = true := decide_eq_true g1
              have d2 : decide (y ≤ hi) = true := decide_eq_true g2
              have hr := HR.out
              rw [if_pos ⟨HGA.out, g1, g2⟩] at hr
              have HR2 := Aside0.mk hr
              clear hr g1 g2
              have hwa : wrap64 ((a : Int) + 1) = (a : Int) + 1 := by unfold wrap64; omega
              go_quiet (fail)
              have x3 : (w4.drewN nq).cell? ⟨B, 3, none⟩ = some (.int .i64 (X : Int)) := HX3.out
              have HI5 := Aside0.mk (HI4.out.below (pw_below_drewN (Below.refl _ _) nq))
              have HS5 := Aside0.mk (HS4.out.frame (FrameR.below (pw_below_drewN (Below.refl _ _) nq)))
              have HF5 := Aside0.mk (HF4.out.trans (FrameR.below (pw_below_drewN (Below.refl _ _) nq)))
              have HB5 := Aside0.mk (pw_below_drewN HB4.out nq)
              clear x0 x1 x2 e3 qn qi hxn hw1 d1 d2
              generalize w4.drewN nq = wq at *
              go_wp2_with fail
              refine (IH.out HR2.out HI5.out HS5.out HSL.out HXY.out.1 (show a + 1 ≤ t.size from HGA.out) HSM1.out HN1.out).mono ?_
              intro e w6 hpost
              unfold GoPost at hpost
              obtain ⟨rfl, ⟨vw6, bs6, zs6, hI6⟩, hF6, hB6⟩ := hpost
              have HQ := Aside0.mk (show (∃ vw bs zs, RefI w6 base gk gs A0 c0 l a0 b t vw bs zs r.1 r.2) ∧ FrameR W w6 ∧ Below base W w6 from ⟨⟨_, _, _, hI6⟩, HF5.out.trans hF6, HB5.out.trans hB6⟩)
              clear hI6 hF6 hB6 x3
              go_wp2_with fail
              go_end0
              rw [HPO.out]
              exact ⟨rfl, HQ.out⟩
            · have d1 : decide (lo ≤ y) = true := decide_eq_true g1
              have d2 : decide (y ≤ hi) = false := decide_eq_false g2
              have hr := HR.out
              rw [if_neg (fun hh => g2 hh.2.2)] at hr
              have HR2 := Aside0.mk hr
              clear hr g1 g2
              go_quiet (fail)
              go_wp2_with fail
              go_end0
              obtain rfl := Option.some.inj HR2.out
              rw [HPO.out]
              exact ⟨rfl, ⟨_, _, _, HI4.out.below (pw_below_drewN (Below.refl _ _) _)⟩, HF4.out.trans (FrameR.below (pw_below_drewN (Below.refl _ _) _)), pw_below_drewN HB4.out _⟩
          · have d1 : decide (lo ≤ y) = false := decide_eq_false g1
            have hr := HR.out
            rw [if_neg (fun hh => g1 hh.2.1)] at hr
            have HR2 := Aside0.mk hr
            clear hr g1
            go_quiet (fail)
            go_wp2_with fail
            go_end0
            obtain rfl := Option.some.inj HR2.out
            rw [HPO.out]
            exact ⟨rfl, ⟨_, _, _, HI4.out.below (pw_below_drewN (Below.refl _ _) _)⟩, HF4.out.trans (FrameR.below (pw_below_drewN (Below.refl _ _) _)), pw_below_drewN HB4.out _⟩
        · have qi : ((a : Int) < (t.size : Int)) = False := eq_false (by omega)
          have hr := HR.out
          rw [if_neg (fun hh => ga hh.1)] at hr
          have HR2 := Aside0.mk hr
          clear hr ga
          go_quiet (fail)
          go_wp2_with fail
          go_end0
          obtain rfl := Option.some.inj HR2.out
          rw [HPO.out]
          exact ⟨rfl, ⟨_, _, _, HI4.out.below (pw_below_drewN (Below.refl _ _) _)⟩, HF4.out.trans (FrameR.below (pw_below_drewN (Below.refl _ _) _)), pw_below_drewN HB4.out _⟩
      · have hr := HD2.out
        simp only [show ¬ (2 : Int) = 1 by decide, if_false, if_true, Int.toNat_natCast] at hr
        obtain ⟨r1, hr1, hr2⟩ := Option.bind_eq_some_iff.1 hr
        have HR1 := Aside0.mk hr1
        have HR2 := Aside0.mk hr2
        have HKP := Aside0.mk (dfs_keep (mvP_fits HP.out t) f hr1 HXY.out.1 (Nat.lt_succ_of_le HA.out) HSM1.out HN1.out)
        clear hr hr1 hr2 HD2 x1 x2
        go_wp2_with fail
        refine (IH.out HR1.out HI4.out HS4.out HSL.out HXY.out.1 HA.out HSM1.out HN1.out).mono ?_
        intro e w5 hpost
        unfold GoPost at hpost
        obtain ⟨rfl, ⟨vw5, bs5, zs5, hI5⟩, hF5, hB5⟩ := hpost
        have HI5 := Aside0.mk hI5
        have HF5 := Aside0.mk hF5
        have HB5 := Aside0.mk hB5
        have x4' : w5.cell? ⟨B, 4, none⟩ = some (.int .i64 (Y : Int)) := (blk_cell ((hF5 _ _ _ HBX.out (by decide) (by decide) (by decide)).trans HBX.out) 4).trans rfl
        clear hI5 hF5 hB5 x0 x3 x4
        go_wp2_with fail
        refine (IH.out HR2.out HI5.out (HS4.out.frame HF5.out) HSL.out HXY.out.2 HA.out HKP.out.1 HKP.out.2).mono ?_
        intro e w6 hpost
        unfold GoPost at hpost
        obtain ⟨rfl, ⟨vw6, bs6, zs6, hI6⟩, hF6, hB6⟩ := hpost
        have HQ := Aside0.mk (show (∃ vw bs zs, RefI w6 base gk gs A0 c0 l a0 b t vw bs zs r.1 r.2) ∧ FrameR W w6 ∧ Below base W w6 from ⟨⟨_, _, _, hI6⟩, (HF4.out.trans HF5.out).trans hF6, (HB4.out.trans HB5.out).trans hB6⟩)
        clear hI6 hF6 hB6 x4'
        go_wp2_with fail
        go_end0
        rw [HPO.out]
        exact ⟨rfl, HQ.out⟩
      · have hr := HD2.out
        have hcap := HX.out.cap rfl
        simp only at hcap
        obtain ⟨lo, rfl⟩ := Int.eq_ofNat_of_zero_le (show (0 : Int) ≤ lo by omega)
        simp only [show ¬ (3 : Int) = 1 by decide, show ¬ (3 : Int) = 2 by decide, if_false, if_true, Int.toNat_natCast] at hr
        have HR := Aside0.mk hr
        have hlo : lo < sl.length := by have := HSL.out; omega
        have HLO := Aside0.mk hlo
        obtain ⟨As', cs', hform, hcs, hCs, hTs⟩ := id HS4.out
        injection hform with hf1 hf2 hf3
        subst hf1 hf3
        have HCS := Aside0.mk hCs
        have HN64 := Aside0.mk (show sl.length ≤ 64 by have := HSL.out; have := HP.out.slots; omega)
        have HBW := Aside0.mk (Below.refl w4.heap.size w4)
        have hBl := blk_lt HBX.out
        rw [← hf2] at HCS HN64 hlo
        clear hr HD2 x2 x4 hcap hf2 hcs hCs hTs
        have hloI : (lo : Int) < (ns : Int) := by omega
        have hlo0 : (0 : Int) ≤ (lo : Int) := by omega
        go_wp2_with (first | ((with_reducible refine gate_builtin (b := .append) (xs := #[.tmp 100, .tmp 101]) rfl ?_); at_builtin; refine Kd.R_append_rows (Kd.int .i64) (w0 := w4) w4.heap.size rfl (.tmp 100) (.tmp 101) 32 3 (.int .i64 0) 8 rfl Try.underlying32 info_int rfl (by decide) (by omega) (.slice none 0 0) ([] : List Int) sl As ns cs (fun _ => True) (fun _ => False) rfl rfl ?aO ?aR (fun _ _ h => h) (fun _ h => h.elim) (fun _ _ => trivial) ?aB (Nat.le_refl _) ?aL ?_; (case aO => exact Kd.R_nil _ _ _ _ _); (case aR => exact HCS.out); (case aB => exact HBW.out); (case aL => have := HN64.out; simp; omega); intro v5 w5 ho hb hg hat; obtain ⟨g5, c5, e5, gb5, gl5, cl5, hg5⟩ := Kd.R_form ho (by have := HLO.out; simp; omega); rw [List.nil_append, HNS.out] at e5; subst e5; rw [List.nil_append] at ho; have HR5 := Aside0.mk ho; have HB5 := Aside0.mk hb; have HG5 := Aside0.mk gb5; have fx1 : w5.cell? ⟨B, 1, none⟩ = some (.int .i64 (lo : Int)) := (hb.cell (p := ⟨B, 1, none⟩) hBl).trans x1; have fc : w5.cell? ⟨g5, lo, none⟩ = some (.int .i64 (rdOf 0 sl (lo : Int))) := (Kd.R_celln 0 ho (lo : Int) (by omega) (by omega)).1; have ff : w5.frozen? ⟨g5, lo, none⟩ = false := (Kd.R_celln 0 ho (lo : Int) (by omega) (by omega)).2; have hneB : B ≠ g5 := (by omega); have fx3 : w5.cell? ⟨B, 3, none⟩ = some (.int .i64 (X : Int)) := (hb.cell (p := ⟨B, 3, none⟩) hBl).trans x3; clear ho hb hg hat gb5 gl5 cl5 hg5))
        have hB6 := HB5.out.setCell (p := ⟨g5, lo, none⟩) HG5.out (.int .i64 (a : Int))
        have hs6 : SlotI (w5.setCell ⟨g5, lo, none⟩ (.int .i64 (a : Int))) (.slice (some ⟨g5, 0, none⟩) ns c5) (sl.set lo (a : Int)) := slot_of_R (Kd.R_putn HR5.out (lo : Int) (a : Int))
        have HI6 := Aside0.mk (HI4.out.below hB6)
        have HF6 := Aside0.mk (HF4.out.trans (FrameR.below hB6))
        have HB6 := Aside0.mk (HB4.out.trans (hB6.mono (Nat.le_trans HI4.out.bk (Nat.le_of_lt (blk_lt HI4.out.hW)))))
        have HS6 := Aside0.mk hs6
        clear hB6 hs6 fx1 fc ff fx3 HR5 HB5
        generalize w5.setCell ⟨g5, lo, none⟩ (.int .i64 (a : Int)) = w6 at *
        refine (IH.out HR.out HI6.out HS6.out (by rw [List.length_set]; exact HSL.out) HXY.out.1 HA.out HSM1.out HN1.out).mono ?_
        intro e w7 hpost
        unfold GoPost at hpost
        obtain ⟨rfl, ⟨vw7, bs7, zs7, hI7⟩, hF7, hB7⟩ := hpost
        have HQ := Aside0.mk (show (∃ vw bs zs, RefI w7 base gk gs A0 c0 l a0 b t vw bs zs r.1 r.2) ∧ FrameR W w7 ∧ Below base W w7 from ⟨⟨_, _, _, hI7⟩, HF6.out.trans hF7, HB6.out.trans hB7⟩)
        clear hI7 hF7 hB7
        go_wp2_with fail
        go_end0
        rw [HPO.out]
        exact ⟨rfl, HQ.out⟩
      · have hr := HD2.out
        have hhold := HX.out.holds rfl
        simp only at hhold
        obtain ⟨lo, rfl⟩ := Int.eq_ofNat_of_zero_le (show (0 : Int) ≤ lo by omega)
        simp only [show ¬ (4 : Int) = 1 by decide, show ¬ (4 : Int) = 2 by decide, show ¬ (4 : Int) = 3 by decide, if_false, if_true, Int.toNat_natCast] at hr
        have HR := Aside0.mk hr
        have HH := Aside0.mk (fun w => refholds_at lo (by omega) (by omega) t a HA.out (by omega) w)
        have e3 : w4.cell? ⟨gk, 3, none⟩ = some (.string t) := (blk_cell HI4.out.hW 3).trans rfl
        have HQ4 := Aside0.mk (And.intro x1 e3)
        have HGB := Aside0.mk (blk_lt HBX.out)
        have HGK := Aside0.mk (blk_lt HI4.out.hW)
        have HSB := Aside0.mk (show base ≤ w4.heap.size from Nat.le_trans HI4.out.bk (Nat.le_of_lt HGK.out))
        clear hr HD2 x2 x3 x4 hhold
        obtain ⟨hv, hhv⟩ : ∃ hv, holdsV (lo : Int) t (a : Int) = hv := ⟨_, rfl⟩
        rw [hhv] at HH HR
        clear hhv
        go_upto_region 17 with fail
        clear x0 x1 e3
        go_region_held3 (fun W => W.cell? ⟨B, 1, none⟩ = some (.int .i64 (lo : Int)) ∧ W.cell? ⟨gk, 3, none⟩ = some (.string t)) (first | exact HQ4.out | exact HQ5.out) (first | ((go_at_call 70; refine (HH.out _).mono ?_; rintro e w5 ⟨rfl, hb5⟩; have HQ5 := Aside0.mk (show w5.cell? ⟨B, 1, none⟩ = some (.int .i64 (lo : Int)) ∧ w5.cell? ⟨gk, 3, none⟩ = some (.string t) from And.intro ((hb5.cell (p := ⟨B, 1, none⟩) HGB.out).trans HQ4.out.1) ((hb5.cell (p := ⟨gk, 3, none⟩) HGK.out).trans HQ4.out.2)); have HB45 := Aside0.mk (show Below w4.heap.size w4 w5 from by (refine Below.trans (?_ : Below w4.heap.size w4 _) hb5; repeat (first | exact Below.refl _ _ | apply pw_below_drewN | apply below_drew1))); clear hb5)))
        have HI5 := Aside0.mk (HI4.out.below HB45.out)
        have HS5 := Aside0.mk (HS4.out.frame (FrameR.below HB45.out))
        have HF5 := Aside0.mk (HF4.out.trans (FrameR.below HB45.out))
        have HB5 := Aside0.mk (HB4.out.trans (HB45.out.mono HSB.out))
        cases hv
        · go_wp2_with fail
          go_end0
          have hr := HR.out
          rw [if_neg (by decide)] at hr
          obtain rfl := Option.some.inj hr
          rw [HPO.out]
          exact ⟨rfl, ⟨_, _, _, HI5.out⟩, HF5.out, HB5.out⟩
        · have x3 : w5.cell? ⟨B, 3, none⟩ = some (.int .i64 (X : Int)) := (HB45.out.cell (p := ⟨B, 3, none⟩) HGB.out).trans HX3.out
          have hr := HR.out
          rw [if_pos rfl] at hr
          have HR2 := Aside0.mk hr
          clear hr
          go_wp2_with fail
          refine (IH.out HR2.out HI5.out HS5.out HSL.out HXY.out.1 HA.out HSM1.out HN1.out).mono ?_
          intro e w6 hpost
          unfold GoPost at hpost
          obtain ⟨rfl, ⟨vw6, bs6, zs6, hI6⟩, hF6, hB6⟩ := hpost
          have HQ := Aside0.mk (show (∃ vw bs zs, RefI w6 base gk gs A0 c0 l a0 b t vw bs zs r.1 r.2) ∧ FrameR W w6 ∧ Below base W w6 from ⟨⟨_, _, _, hI6⟩, HF5.out.trans hF6, HB5.out.trans hB6⟩)
          clear hI6 hF6 hB6 x3
          go_wp2_with fail
          go_end0
          rw [HPO.out]
          exact ⟨rfl, HQ.out⟩
      · have hr := HD2.out
        simp only [show ¬ (5 : Int) = 1 by decide, show ¬ (5 : Int) = 2 by decide, show ¬ (5 : Int) = 3 by decide, show ¬ (5 : Int) = 4 by decide, if_false, if_true] at hr
        have HR := Aside0.mk hr
        clear hr HD2 x1 x2 x3 x4
        go_wp2_with fail
        refine (end_at HI4.out (by have := small_len _ HSM1.out; have := HN1.out; have := HSZ.out; omega) a HS4.out).mono ?_
        intro e w5 hpost
        unfold EndPost at hpost
        obtain ⟨rfl, ⟨vw5, zs5, hI5⟩, hF5, hB5⟩ := hpost
        have HQ := Aside0.mk (show (∃ vw bs zs, RefI w5 base gk gs A0 c0 l a0 b t vw bs zs (k :: S) (addWay ws a sl)) ∧ FrameR W w5 ∧ Below base W w5 from ⟨⟨_, _, _, hI5⟩, HF4.out.trans hF5, HB4.out.trans hB5⟩)
        clear hI5 hF5 hB5 x0
        go_wp2_with fail
        go_end0
        obtain rfl := Option.some.inj HR.out
        rw [HPO.out]
        exact ⟨rfl, HQ.out⟩
      · have hr := HD2.out
        simp only [show ¬ (6 : Int) = 1 by decide, show ¬ (6 : Int) = 2 by decide, show ¬ (6 : Int) = 3 by decide, show ¬ (6 : Int) = 4 by decide, show ¬ (6 : Int) = 5 by decide, if_false] at hr
        have HR := Aside0.mk hr
        clear hr HD2 x1 x2 x3 x4
        go_wp2_with fail
        go_end0
        obtain rfl := Option.some.inj HR.out
        rw [HPO.out]
        exact ⟨rfl, ⟨_, _, _, HI4.out⟩, HF4.out, HB4.out⟩
end Go.Proofs.Ytjajehjhonabdaa.Pure
