import Derived.Test.YtjajehjhonabdaaXBitFrom
import Derived.Test.YtjajehjhonabdaaXBitNew
import Derived.Test.YtjajehjhonabdaaXBitB
namespace Go.Proofs.YtjajehjhonabdaaX
open Go.RowKit Go.Proofs.YtjajehjhonabdaaW.PrintWords Go.Proofs.YtjajehjhonabdaaW.PrintLast Go.Proofs.YtjajehjhonabdaaW.PrintMore
open Bit
set_option linter.unusedVariables false
set_option linter.unusedSimpArgs false
/-! bitstate.Run. -/
/-- What the document's search finds. -/
def searchV (l : List I5) (t : ByteArray) (a0 b from_ : Int) (anch long : Bool) : Option (List Int) := findV (mvP l t) (t.size + 1) l.length a0.toNat (List.replicate b.toNat (-1)) long anch (t.size + 1 - from_.toNat) from_.toNat
def askV (t : ByteArray) (from_ : Int) (anch long : Bool) : Value := .agg #[.string t, .int .i64 from_, .bool anch, .bool long]
def noneV (st code : Int) : Value := .tuple #[.agg #[.bool false, .slice none 0 0], .int .i64 st, .int .i64 code]
def RunPost (W : World) (l : List I5) (t : ByteArray) (a0 b from_ : Int) (anch long : Bool) (budget : Int) (e : Ending) (w' : World) : Prop :=
  Below W.heap.size W w' ∧
  (((from_ < 0 ∨ (t.size : Int) < from_) ∧ e = .returned (noneV 0 1)) ∨
   ((0 ≤ from_ ∧ from_ ≤ (t.size : Int)) ∧ (budget < (pairsV l.length t.size : Nat) ∨ 262144 < pairsV l.length t.size) ∧ e = .returned (noneV 0 210)) ∨
   ((0 ≤ from_ ∧ from_ ≤ (t.size : Int)) ∧ ((pairsV l.length t.size : Nat) ≤ budget ∧ pairsV l.length t.size ≤ 262144) ∧ ∃ st : Nat,
     (searchV l t a0 b from_ anch long = none ∧ e = .returned (noneV st 0)) ∨
     ∃ x v, searchV l t a0 b from_ anch long = some x ∧ e = .returned (.tuple #[.agg #[.bool true, v], .int .i64 st, .int .i64 0]) ∧ Kd.R (Kd.int .i64) 3 w' W.heap.size (fun _ => True) v x))
set_option maxHeartbeats 4000000 in
set_option maxRecDepth 20000 in
theorem run_out {l : List I5} {a0 b : Int} {o : List Int} {W : World} {gc : Nat} (t : ByteArray) (from_ : Int) (anch long : Bool) (budget : Int) (hf : from_ < 0 ∨ (t.size : Int) < from_) :
    Calls Try.prog 8 #[.pointer (some ⟨gc, 0, none⟩), askV t from_ anch long, .int .i64 budget] W (RunPost W l t a0 b from_ anch long budget) := by
  have HB := Aside0.mk (fun (o1 o2 : Obj) => ((Below.refl W.heap.size W).alloc (Nat.le_refl _) o1).alloc (by simp) o2)
  have HPO := Aside0.mk (show ∀ e w', e = .returned (noneV 0 1) → Below W.heap.size W w' → RunPost W l t a0 b from_ anch long budget e w' from fun e w' he h => ⟨h, .inl ⟨hf, he⟩⟩)
  generalize RunPost W l t a0 b from_ anch long budget = PO at *
  unfold askV
  by_cases c : from_ < 0
  · go_enter Try.func8, Try.ntmps8
    go_wp2_with fail
    refine bodyPost_ret (results_ctt rfl _ _ (W.heap.size + 1) 34 #[.bool false, .slice none 0 0] (0, 0) _ rfl (heap_at (by simp)) Try.underlying34 rfl (by kernel_rfl)) rfl (HPO.out _ _ rfl (HB.out _ _))
  · have c1 : decide (from_ < 0) = false := decide_eq_false c
    have c2 : decide ((t.size : Int) < from_) = true := decide_eq_true (by omega)
    clear c
    go_enter Try.func8, Try.ntmps8
    go_wp2_with fail
    refine bodyPost_ret (results_ctt rfl _ _ (W.heap.size + 1) 34 #[.bool false, .slice none 0 0] (0, 0) _ rfl (heap_at (by simp)) Try.underlying34 rfl (by kernel_rfl)) rfl (HPO.out _ _ rfl (HB.out _ _))
theorem info_intB : (Try.prog.info? 3).map (fun i => (i.zero, i.size, i.bytes)) = some (some (.int .i64 0), 1, 8) := by kernel_rfl
def intCells (l : List Int) : Array Value := (l.map fun x => Value.int .i64 x).toArray
theorem make_ints (n : Nat) (hn : n ≤ 100000) (w : World) : (Instr.makeSlice 32 (.int .i64 n) (.int .i64 n)).run Try.prog w = .ok (.slice (some ⟨w.heap.size, 0, none⟩) n n) (w.alloc (.cells (intCells (List.replicate n 0)) 3)) := by
  obtain ⟨i0, hi, hz0, hz1, hz2⟩ := info_parts info_intB
  have h := run_make (P := Try.prog) w 32 3 i0 (.int .i64 0) Try.underlying32 hi hz0 .i64 .i64 (n : Int) (n : Int) (by omega) (by omega) (by rw [hz2]; omega) (by omega)
  have hc : madeCells (Value.int .i64 0).cells n = intCells (List.replicate n 0) := by
    apply Array.ext'
    unfold intCells madeCells
    apply List.ext_getElem
    · simp
    · intro i h1 h2
      simp [Value.cells, Nat.mod_one]
  rw [h, Int.toNat_natCast, hz1, Nat.mul_one, hc]
theorem made_R {w : World} {base n : Nat} (hb : base ≤ w.heap.size) (hn : n ≤ 100000) : Kd.R (Kd.int .i64) 3 (w.alloc (.cells (intCells (List.replicate n 0)) 3)) base (fun _ => True) (.slice (some ⟨w.heap.size, 0, none⟩) n n) (List.replicate n 0) :=
  (fixed_R kI_fixed).2 ⟨fun _ _ => trivial, by rw [flat_len kI.sz kI_fixed.len], .inr ⟨w.heap.size, n, _, by rw [List.length_replicate], hb, heap_alloc_last w _, by simp, by unfold maxLen; omega, by show _ = n * 1; simp [intCells], by rw [List.length_replicate]; show List.take (n * 1) _ = _; simp [intCells, List.flatMap_replicate, encInt]⟩⟩
set_option maxHeartbeats 4000000 in
set_option maxRecDepth 20000 in
theorem run_refused {l : List I5} {a0 b : Int} {o : List Int} {W : World} {gc : Nat} (hck : Ck W gc l a0 b o) (hn : l.length ≤ 4000) (t : ByteArray) (ht : t.size ≤ 1000000) (from_ : Int) (anch long : Bool) (budget : Int) (hf0 : 0 ≤ from_) (hf1 : from_ ≤ (t.size : Int)) (hp : budget < (pairsV l.length t.size : Nat) ∨ 262144 < pairsV l.length t.size) :
    Calls Try.prog 8 #[.pointer (some ⟨gc, 0, none⟩), askV t from_ anch long, .int .i64 budget] W (RunPost W l t a0 b from_ anch long budget) := by
  obtain ⟨w2, hw2⟩ : ∃ w2, w2 = (W.alloc (.cells #[.string t, .int .i64 from_, .bool anch, .bool long] 26)).alloc (.cells #[.bool false, .slice none 0 0] 34) := ⟨_, rfl⟩
  have hb2 : Below W.heap.size W w2 := by rw [hw2]; exact ((Below.refl W.heap.size W).alloc (Nat.le_refl _) _).alloc (by simp) _
  have HPO := Aside0.mk (show ∀ e w', e = .returned (noneV 0 210) → Below W.heap.size W w' → RunPost W l t a0 b from_ anch long budget e w' from fun e w' he h => ⟨h, .inr (.inl ⟨⟨hf0, hf1⟩, hp, he⟩)⟩)
  generalize RunPost W l t a0 b from_ anch long budget = PO at *
  have HPA := Aside0.mk (pairs_at (hck.step hb2) t hn ht)
  have HF := Aside0.mk (show w2.heap[W.heap.size + 1]? = some (.cells #[.bool false, .slice none 0 0] 34 (0, 0)) from by rw [hw2]; exact heap_at (by simp))
  have HW2 := Aside0.mk hw2
  have HB2 := Aside0.mk hb2
  clear hck hb2 hw2
  unfold askV
  generalize pairsV l.length t.size = p at *
  have c0 : decide (from_ < 0) = false := decide_eq_false (by omega)
  have c1 : decide ((t.size : Int) < from_) = false := decide_eq_false (by omega)
  go_enter Try.func8, Try.ntmps8
  go_wp2_with fail
  rw [← HW2.out]
  refine HPA.out.mono ?_
  rintro e w3 ⟨rfl, hb3⟩
  have HF3 := Aside0.mk (blk_below HF.out hb3)
  have HB3 := Aside0.mk (HB2.out.trans (hb3.mono HB2.out.size))
  have k0 := (blk_cell HF3.out 0).trans rfl
  have k1 := (blk_cell HF3.out 1).trans rfl
  have f0 := blk_frozen HF3.out 0
  have f1 := blk_frozen HF3.out 1
  clear hb3 HPA HW2
  by_cases d : budget < (p : Int)
  · have d1 : decide (budget < (p : Int)) = true := decide_eq_true d
    clear hp
    go_wp2_with fail
    exact bodyPost_ret (results_ctt rfl _ _ (W.heap.size + 1) 34 #[.bool false, .slice none 0 0] (0, 0) _ rfl (blk_put (blk_put HF3.out 0 _ rfl) 1 _ rfl) Try.underlying34 rfl (by kernel_rfl)) rfl (HPO.out _ _ rfl (below_set (below_set HB3.out (by omega)) (by omega)))
  · have d1 : decide (budget < (p : Int)) = false := decide_eq_false d
    have d2 : 262144 < p := by omega
    have d3 : decide ((262144 : Int) < (p : Int)) = true := decide_eq_true (by omega)
    clear hp
    go_wp2_with fail
    exact bodyPost_ret (results_ctt rfl _ _ (W.heap.size + 1) 34 #[.bool false, .slice none 0 0] (0, 0) _ rfl (blk_put (blk_put HF3.out 0 _ rfl) 1 _ rfl) Try.underlying34 rfl (by kernel_rfl)) rfl (HPO.out _ _ rfl (below_set (below_set HB3.out (by omega)) (by omega)))
/-- So far: slots that have been blanked. -/
def blankTo (n k : Nat) : List Int := List.replicate k (-1) ++ List.replicate (n - k) 0
theorem blank_set {n k : Nat} (h : k < n) : (blankTo n k).set k (-1) = blankTo n (k + 1) := by
  unfold blankTo
  rw [show n - k = (n - (k + 1)) + 1 by omega, List.replicate_succ, List.set_append_right _ _ (by simp)]
  simp only [List.length_replicate, Nat.sub_self, List.set_cons_zero]
  rw [List.replicate_succ', List.append_assoc]
  rfl
/-- What is known of a search under way ahead of a place. -/
structure GoI (l : List I5) (t : ByteArray) (a0 : Int) (nb fr : Nat) (anch long : Bool) (a : Nat) (s : St) : Prop where
  sl : s.sl.length = nb
  small : Small (t.size + 1) l.length s.S
  steps : s.steps ≤ s.S.length
  none : s.best = none → Closed (mvP l t) (t.size + 1) l.length s.S ∧ (∃ y, s.sl = (List.replicate nb (-1)).set 0 y) ∧ ((a = fr ∨ anch = false) → searchV l t a0 nb fr anch long = findV (mvP l t) (t.size + 1) l.length a0.toNat (List.replicate nb (-1)) long anch (t.size + 1 - a) a) ∧ (a ≠ fr → anch = true → searchV l t a0 nb fr anch long = none)
  some : ∀ x, s.best = some x → searchV l t a0 nb fr anch long = some x
theorem GoI.ends {l : List I5} {t : ByteArray} {a0 : Int} {nb fr : Nat} {anch long : Bool} {a : Nat} {s : St} (h : GoI l t a0 nb fr anch long a s) (ha : ¬ (a ≤ t.size ∧ s.best = .none ∧ (a = fr ∨ anch = false))) : searchV l t a0 nb fr anch long = s.best := by
  cases hb : s.best with
  | some x => exact h.some x hb
  | none =>
    obtain ⟨_, _, h3, h4⟩ := h.none hb
    by_cases g : a = fr ∨ anch = false
    · have : t.size + 1 - a = 0 := by
        have hh : ¬ a ≤ t.size := fun x => ha ⟨x, hb, g⟩
        omega
      rw [h3 g, this]
      rfl
    · exact h4 (fun e => g (.inl e)) (by cases anch <;> simp_all)
/-- One place: the search with a stack goes on from it. -/
theorem GoI.next {l : List I5} {t : ByteArray} {a0 : Int} {nb fr : Nat} {anch long : Bool} {a : Nat} {s : St} {o b : Int} (hP : ProgOk l a0 nb) (h : GoI l t a0 nb fr anch long a s) (ha : a ≤ t.size) (hb : s.best = .none) (hg : a = fr ∨ anch = false) (hfr : fr ≤ a) :
    ∃ f r, run (mvP l t) (t.size + 1) long f { s with sl := s.sl.set 0 (a : Int) } [.visit a0.toNat a] = Option.some r ∧ (r.1.sl.length = nb → Small (t.size + 1) l.length r.1.S → r.1.steps ≤ r.1.S.length → GoI l t a0 nb fr anch long (a + 1) r.1) := by
  obtain ⟨hc, ⟨y, hy⟩, h3, _⟩ := h.none hb
  have hst := hP.start
  have hs2 := hP.slots
  obtain ⟨f, r, b, hr, hbest, hn⟩ := Bit.from_at (mvP_fits hP t) (mvP_caps hP t) (show 2 ≤ ((nb : Nat) : Int).toNat by omega) (show a0.toNat < l.length by omega) (show a < t.size + 1 by omega) (blank := List.replicate nb (-1)) (by simp) long hc h.small s.steps
  refine ⟨f, (r, b), ?_, fun g1 g2 g3 => ⟨g1, g2, g3, fun hN => ?_, fun x hx => ?_⟩⟩
  · rw [← hr, hy, List.set_set, hb]
  · obtain ⟨k1, k2, k3⟩ := hn hN
    have hfind : findV (mvP l t) (t.size + 1) l.length a0.toNat (List.replicate nb (-1)) long anch (t.size + 1 - a) a = if anch = true then Option.none else findV (mvP l t) (t.size + 1) l.length a0.toNat (List.replicate nb (-1)) long anch (t.size + 1 - (a + 1)) (a + 1) := by
      rw [show t.size + 1 - a = (t.size + 1 - (a + 1)) + 1 by omega, findV, ← hbest]
      rw [show r.best = Option.none from hN]
    refine ⟨k1, ⟨_, k3⟩, fun g => ?_, fun g ga => ?_⟩
    · rcases g with g | g
      · omega
      · rw [h3 hg, hfind, if_neg (by rw [g]; decide)]
    · rw [h3 hg, hfind, if_pos ga]
  · rw [h3 hg, show t.size + 1 - a = (t.size + 1 - (a + 1)) + 1 by omega, findV, ← hbest, show r.best = Option.some x from hx]
theorem blank_len {n k : Nat} (h : k ≤ n) : (blankTo n k).length = n := by simp [blankTo]; omega
theorem wk_made {w4 : World} {base gc gm gd rows cols nb : Nat} (t : ByteArray) (long : Bool) (hb : base ≤ w4.heap.size) (hM : MarksI w4 gm gd rows cols []) (hbm : base ≤ gm) (hbd : base ≤ gd) (hn : nb ≤ 100000) :
    WkI ((w4.alloc (.cells (intCells (List.replicate nb 0)) 3)).alloc (.cells #[.pointer (some ⟨gc, 0, none⟩), .string t, .bool long, .pointer (some ⟨gm, 0, none⟩), .slice none 0 0, .slice (some ⟨w4.heap.size, 0, none⟩) nb nb, .slice none 0 0, .int .i64 0] 63)) base (w4.heap.size + 1) gc gm gd t long rows cols [] (.slice none 0 0) (.slice (some ⟨w4.heap.size, 0, none⟩) nb nb) (.slice none 0 0) [] (blankTo nb 0) none 0 ∧
    Below w4.heap.size w4 ((w4.alloc (.cells (intCells (List.replicate nb 0)) 3)).alloc (.cells #[.pointer (some ⟨gc, 0, none⟩), .string t, .bool long, .pointer (some ⟨gm, 0, none⟩), .slice none 0 0, .slice (some ⟨w4.heap.size, 0, none⟩) nb nb, .slice none 0 0, .int .i64 0] 63)) := by
  have hbel := ((Below.refl w4.heap.size w4).alloc (Nat.le_refl _) (.cells (intCells (List.replicate nb 0)) 3)).alloc (by simp) (.cells #[.pointer (some ⟨gc, 0, none⟩), .string t, .bool long, .pointer (some ⟨gm, 0, none⟩), .slice none 0 0, .slice (some ⟨w4.heap.size, 0, none⟩) nb nb, .slice none 0 0, .int .i64 0] 63)
  obtain ⟨ws, m1, m2, _⟩ := id hM
  refine ⟨⟨heap_at (by simp), by omega, hbm, hbd, hM.keep (hbel.block gm (blk_lt m1)) (hbel.block gd (blk_lt m2)), Kd.R_nil _ _ _ _ _, ?_, fun _ => rfl, fun b h => by cases h⟩, hbel⟩
  have := made_R (w := w4) (n := nb) hb hn
  refine Kd.R_below (by unfold blankTo; simpa using this) ((Below.refl _ _).alloc (Nat.le_refl _) _)
set_option maxHeartbeats 4000000 in
set_option maxRecDepth 20000 in
theorem run_go {l : List I5} {a0 b : Int} {o : List Int} {W : World} {gc : Nat} (hP : ProgOk l a0 b) (hck : Ck W gc l a0 b o) (t : ByteArray) (ht : t.size ≤ 1000000) (from_ : Int) (anch long : Bool) (budget : Int) (hf0 : 0 ≤ from_) (hf1 : from_ ≤ (t.size : Int)) (hp1 : (pairsV l.length t.size : Nat) ≤ budget) (hp2 : pairsV l.length t.size ≤ 262144) :
    Calls Try.prog 8 #[.pointer (some ⟨gc, 0, none⟩), askV t from_ anch long, .int .i64 budget] W (RunPost W l t a0 b from_ anch long budget) := by
  have hl := hP.len
  have hsl := hP.slots
  obtain ⟨nb, rfl⟩ := Int.eq_ofNat_of_zero_le (show 0 ≤ b by omega)
  obtain ⟨fr, rfl⟩ := Int.eq_ofNat_of_zero_le hf0
  have hnb : 2 ≤ nb ∧ nb ≤ 64 := by omega
  have hgc : gc < W.heap.size := by obtain ⟨_, _, _, _, _, h1, _⟩ := hck; exact blk_lt h1
  have hsz : l.length * (t.size + 1) ≤ 262144 := by rw [← pairsV_le hp2]; exact hp2
  obtain ⟨w2, hw2⟩ : ∃ w2, w2 = (W.alloc (.cells #[.string t, .int .i64 (fr : Int), .bool anch, .bool long] 26)).alloc (.cells #[.bool false, .slice none 0 0] 34) := ⟨_, rfl⟩
  have hb2 : Below W.heap.size W w2 := by rw [hw2]; exact ((Below.refl W.heap.size W).alloc (Nat.le_refl _) _).alloc (by simp) _
  have HPO := Aside0.mk (show ∀ e w' (st : Nat), ((searchV l t a0 nb fr anch long = none ∧ e = .returned (noneV st 0)) ∨ ∃ x v, searchV l t a0 nb fr anch long = some x ∧ e = .returned (.tuple #[.agg #[.bool true, v], .int .i64 st, .int .i64 0]) ∧ Kd.R (Kd.int .i64) 3 w' W.heap.size (fun _ => True) v x) → Below W.heap.size W w' → RunPost W l t a0 nb fr anch long budget e w' from fun e w' st he h => ⟨h, .inr (.inr ⟨⟨hf0, hf1⟩, ⟨hp1, hp2⟩, st, he⟩)⟩)
  generalize RunPost W l t a0 nb fr anch long budget = PO at *
  have HCK2 := Aside0.mk (hck.step hb2)
  have HPA := Aside0.mk (pairs_at (hck.step hb2) t hl.2 ht)
  have HX := Aside0.mk (show w2.heap[W.heap.size]? = some (.cells #[.string t, .int .i64 (fr : Int), .bool anch, .bool long] 26 (0, 0)) from by rw [hw2]; exact (((Below.refl _ _).alloc (Nat.le_refl _) _).block _ (by simp)).trans (heap_alloc_last W _))
  have HF := Aside0.mk (show w2.heap[W.heap.size + 1]? = some (.cells #[.bool false, .slice none 0 0] 34 (0, 0)) from by rw [hw2]; exact heap_at (by simp))
  have HW2 := Aside0.mk hw2
  have HB2 := Aside0.mk hb2
  have HP := Aside0.mk hP
  have HL := Aside0.mk hl
  have HSZ := Aside0.mk hsz
  have HGC := Aside0.mk hgc
  have HNB := Aside0.mk hnb
  clear hck hb2 hw2 hP hsl hl hsz hgc hnb
  unfold askV
  obtain ⟨p, hpp⟩ : ∃ p, pairsV l.length t.size = p := ⟨_, rfl⟩
  rw [hpp] at HPA hp1 hp2
  clear hpp
  have c0 : decide ((fr : Int) < 0) = false := decide_eq_false (by omega)
  have c1 : decide ((t.size : Int) < (fr : Int)) = false := decide_eq_false (by omega)
  have c2 : decide (t.size < fr) = false := decide_eq_false (by omega)
  have d1 : decide (budget < (p : Int)) = false := decide_eq_false (by omega)
  have d2 : decide ((262144 : Int) < (p : Int)) = false := decide_eq_false (by omega)
  have HFR := Aside0.mk (show fr ≤ t.size by omega)
  go_enter Try.func8, Try.ntmps8
  go_wp2_with fail
  rw [← HW2.out]
  refine HPA.out.mono ?_
  rintro e w3 ⟨rfl, hb3⟩
  have HF3 := Aside0.mk (blk_below HF.out hb3)
  have HX3 := Aside0.mk (blk_below HX.out hb3)
  have HB3 := Aside0.mk (HB2.out.trans (hb3.mono HB2.out.size))
  have HCK3 := Aside0.mk (HCK2.out.step hb3)
  clear hb3 HPA HW2 HF HX HB2 HCK2
  go_upto_region 6 with fail
  clear d1 d2 hp1 hp2 c0 c1 c2
  obtain ⟨X, hX⟩ : ∃ X, W.heap.size = X := ⟨_, rfl⟩
  have HXE := Aside0.mk hX
  rw [hX] at HX3 HF3 ⊢
  clear hX
  have HE3 := Aside0.mk (show w3.cell? ⟨X, 0, none⟩ = some (.string t) from (blk_cell HX3.out 0).trans rfl)
  have HXL := Aside0.mk (blk_lt HX3.out)
  have hws : IntKind.i64.wrap ((t.size : Int) + 1) = (t.size : Int) + 1 := by rw [IntKind.wrap_i64]; omega
  have HBS3 := Aside0.mk (show W.heap.size ≤ w3.heap.size from HB3.out.size)
  have HY3 := Aside0.mk (show X + 2 ≤ w3.heap.size from blk_lt HF3.out)
  go_region_held3 (fun W => W.cell? ⟨X, 0, none⟩ = some (.string t)) (first | exact HE3.out | exact HE4.out | exact (Below.cell (B := w3.heap.size) (w := w3) (p := ⟨X, 0, none⟩) (by repeat (first | exact Below.refl _ _ | apply pw_below_drewN | apply below_drew1 | refine Below.alloc ?_ (Nat.le_refl _) _)) HXL.out).trans HE3.out) (first | ((go_at_call 20; refine (len_at (HCK3.out.step (by repeat (first | exact Below.refl _ _ | apply pw_below_drewN | apply below_drew1)))).mono ?_; rintro e w' ⟨rfl, rfl⟩)) | ((go_at_call 19; refine (new_marks l.length (t.size + 1) HL.out.1 (by omega) HSZ.out _).mono ?_; rintro e w4 ⟨gm, gd, rfl, hgm, hgd, hM, hb4⟩; have HM4 := Aside0.mk hM; have HB34 := Aside0.mk (show Below w3.heap.size w3 w4 from by (refine Below.trans (?_ : Below w3.heap.size w3 _) hb4; repeat (first | exact Below.refl _ _ | apply pw_below_drewN | apply below_drew1))); have HGM := Aside0.mk (show X + 2 ≤ gm ∧ X + 2 ≤ gd from ⟨Nat.le_trans HY3.out hgm, Nat.le_trans HY3.out hgd⟩); have HE4 := Aside0.mk (show w4.cell? ⟨X, 0, none⟩ = some (.string t) from (HB34.out.cell (p := ⟨X, 0, none⟩) HXL.out).trans HE3.out); clear hM hb4 hgm hgd)))
  have HX4 := Aside0.mk (blk_below HX3.out HB34.out)
  have HF4 := Aside0.mk (blk_below HF3.out HB34.out)
  have HB4 := Aside0.mk (HB3.out.trans (HB34.out.mono HBS3.out))
  have HCK4 := Aside0.mk (HCK3.out.step HB34.out)
  clear HX3 HF3 HB3 HCK3 HE3 HE4 HXL HBS3 HB34
  go_upto_region 9 with fail
  have HQ4 := Aside0.mk (show w4.cell? ⟨X, 0, none⟩ = some (.string t) ∧ w4.cell? ⟨X, 3, none⟩ = some (.bool long) from ⟨(blk_cell HX4.out 0).trans rfl, (blk_cell HX4.out 3).trans rfl⟩)
  have HXL := Aside0.mk (blk_lt HX4.out)
  have hmk := make_ints nb (by have := HNB.out; omega)
  generalize hic : intCells (List.replicate nb 0) = ic at hmk
  have HIC := Aside0.mk hic
  clear hic
  go_region_held3 (fun W => W.cell? ⟨X, 0, none⟩ = some (.string t) ∧ W.cell? ⟨X, 3, none⟩ = some (.bool long)) (first | exact HQ4.out | exact ⟨(Below.cell (B := w4.heap.size) (w := w4) (p := ⟨X, 0, none⟩) (by repeat (first | exact Below.refl _ _ | apply pw_below_drewN | apply below_drew1 | refine Below.alloc ?_ (by simp) _)) HXL.out).trans HQ4.out.1, (Below.cell (B := w4.heap.size) (w := w4) (p := ⟨X, 3, none⟩) (by repeat (first | exact Below.refl _ _ | apply pw_below_drewN | apply below_drew1 | refine Below.alloc ?_ (by simp) _)) HXL.out).trans HQ4.out.2⟩) (first | ((go_at_call 21; refine (slots_at (HCK4.out.step (by repeat (first | exact Below.refl _ _ | apply pw_below_drewN | apply below_drew1)))).mono ?_; rintro e w' ⟨rfl, rfl⟩)))
  obtain ⟨hw5, hb5⟩ := wk_made (gc := gc) t long (show X + 2 ≤ w4.heap.size from blk_lt HF4.out) HM4.out HGM.out.1 HGM.out.2 (show nb ≤ 100000 by have := HNB.out; omega)
  rw [HIC.out] at hw5 hb5
  have HX5 := Aside0.mk (blk_below HX4.out hb5.drew)
  have HF5 := Aside0.mk (blk_below HF4.out hb5.drew)
  have HB5 := Aside0.mk (show Below X W _ from HXE.out ▸ (HB4.out.trans (hb5.mono HB4.out.size)).drew)
  have HCK5 := Aside0.mk (HCK4.out.step hb5.drew)
  have HW5 := Aside0.mk (hw5.keep (W' := ((w4.alloc (.cells ic 3)).alloc (.cells #[.pointer (some ⟨gc, 0, none⟩), .string t, .bool long, .pointer (some ⟨gm, 0, none⟩), .slice none 0 0, .slice (some ⟨w4.heap.size, 0, none⟩) nb nb, .slice none 0 0, .int .i64 0] 63)).drew) (fun _ _ => rfl))
  have HB5' := Aside0.mk (show Below W.heap.size W _ from (HB4.out.trans (hb5.mono HB4.out.size)).drew)
  clear hw5 hb5 HX4 HF4 HB4 HCK4 HM4 HGM HQ4 HXL hmk HIC
  generalize ((w4.alloc (.cells ic 3)).alloc (.cells #[.pointer (some ⟨gc, 0, none⟩), .string t, .bool long, .pointer (some ⟨gm, 0, none⟩), .slice none 0 0, .slice (some ⟨w4.heap.size, 0, none⟩) nb nb, .slice none 0 0, .int .i64 0] 63)).drew = w5 at *
  obtain ⟨gw, hgw⟩ : ∃ gw, w4.heap.size + 1 = gw := ⟨_, rfl⟩
  rw [hgw] at HW5 ⊢
  clear hgw
  have HGX := Aside0.mk (show gc < X + 2 from by have := HGC.out; have := HXE.out; omega)
  obtain ⟨gs, hgs⟩ : ∃ gs, w4.heap.size = gs := ⟨_, rfl⟩
  rw [hgs] at HW5
  clear hgs
  have e5 : w5.cell? ⟨gw, 5, none⟩ = some (.slice (some ⟨gs, 0, none⟩) nb nb) := (blk_cell HW5.out.hW 5).trans rfl
  go_wp2_with fail
  clear e5
  go_loopg [12, 67] nb (fun gk s12 s67 wr => ∃ k : Nat, k ≤ nb ∧ nb - k ≤ gk ∧ s67 = .int .i64 k ∧ Aside0 (WkI wr (X + 2) gw gc gm gd t long l.length (t.size + 1) [] (.slice none 0 0) (.slice (some ⟨gs, 0, none⟩) nb nb) (.slice none 0 0) [] (blankTo nb k) none 0) ∧ Aside0 (Below (X + 2) w5 wr))
  case atStart => exact ⟨0, by omega, by omega, rfl, HW5, ⟨Below.refl _ _⟩⟩
  case round =>
    clear HW5
    obtain ⟨k, hk, hgk, rfl, HW, HB⟩ := hrel
    by_cases hlt : k < nb
    · have e5 : wr.cell? ⟨gw, 5, none⟩ = some (.slice (some ⟨gs, 0, none⟩) nb nb) := (blk_cell HW.out.hW 5).trans rfl
      have c0 : wr.cell? ⟨gs, k, none⟩ = some (.int .i64 (rdOf 0 (blankTo nb k) (k : Int))) := (Kd.R_celln 0 HW.out.hS (k : Int) (by omega) (by omega)).1
      have f0 : wr.frozen? ⟨gs, k, none⟩ = false := (Kd.R_celln 0 HW.out.hS (k : Int) (by omega) (by omega)).2
      generalize rdOf 0 (blankTo nb k) (k : Int) = z0 at c0
      obtain ⟨hw6, hb6⟩ := wk_slot HW.out k (-1)
      rw [blank_set hlt] at hw6
      have HW6 := Aside0.mk hw6
      have HB6 := Aside0.mk (HB.out.trans hb6)
      have hk64 : nb ≤ 64 := HNB.out.2
      clear hw6 hb6 HW HB
      go_wp2_with fail
      go_roundg (nb - (k + 1))
      case measure => omega
      case rel => exact ⟨k + 1, by omega, by omega, rfl, HW6, HB6⟩
    · obtain rfl : k = nb := by omega
      have HX := Aside0.mk ((HB.out.block X (by omega)).trans HX5.out)
      have x1 : wr.cell? ⟨X, 1, none⟩ = some (.int .i64 (fr : Int)) := (blk_cell HX.out 1).trans rfl
      clear hk hgk hlt
      go_wp2_with fail
      clear x1
      have HW0 := Aside0.mk (show WkI wr (X + 2) gw gc gm gd t long l.length (t.size + 1) [] (.slice none 0 0) (.slice (some ⟨gs, 0, none⟩) k k) (.slice none 0 0) [] (List.replicate k (-1)) none 0 from by have := HW.out; rw [show blankTo k k = List.replicate k (-1) by simp [blankTo]] at this; exact this)
      have HGI := Aside0.mk (show GoI l t a0 k fr anch long fr ⟨[], List.replicate k (-1), none, 0⟩ from ⟨by simp, small_nil _ , by simp, fun _ => ⟨closed_nil _, ⟨-1, by have := HNB.out; obtain ⟨m, rfl⟩ : ∃ m, k = m + 1 := ⟨k - 1, by omega⟩; rw [List.replicate_succ]; rfl⟩, fun _ => rfl, fun h => absurd rfl h⟩, fun x h => by cases h⟩)
      clear HW
      go_loopg [13] (t.size + 2) (fun gk s13 wr => ∃ (a : Nat) (s : St) (vj vs vb : Value), s13 = .int .i64 a ∧ fr ≤ a ∧ a ≤ t.size + 1 ∧ t.size + 2 - a ≤ gk ∧ Aside0 (WkI wr (X + 2) gw gc gm gd t long l.length (t.size + 1) s.S vj vs vb [] s.sl s.best s.steps) ∧ Aside0 (GoI l t a0 k fr anch long a s) ∧ Aside0 (Below (X + 2) w5 wr))
      case atStart => exact ⟨fr, ⟨[], List.replicate k (-1), none, 0⟩, _, _, _, rfl, Nat.le_refl _, by have := HFR.out; omega, by omega, HW0, HGI, HB⟩
      case round =>
        clear HW0 HGI HB HX
        obtain ⟨a, s, vj, vs, vb, rfl, hfa, has, hga, HW, HGI, HB⟩ := hrel
        have HX := Aside0.mk ((HB.out.block X (by omega)).trans HX5.out)
        have x0 : wr.cell? ⟨X, 0, none⟩ = some (.string t) := (blk_cell HX.out 0).trans rfl
        have x1 : wr.cell? ⟨X, 1, none⟩ = some (.int .i64 (fr : Int)) := (blk_cell HX.out 1).trans rfl
        have x2 : wr.cell? ⟨X, 2, none⟩ = some (.bool anch) := (blk_cell HX.out 2).trans rfl
        have e6 : wr.cell? ⟨gw, 6, none⟩ = some vb := (blk_cell HW.out.hW 6).trans rfl
        have hnil : ∃ A n c, vb = .slice A n c ∧ (Go.binOp .eql 32 (.slice A n c) (.slice none 0 0)).run Try.prog wr = .ok (.bool (decide (s.best = none))) wr := by
          cases hb : s.best with
          | none =>
            obtain rfl := HW.out.hN hb
            exact ⟨none, 0, 0, rfl, nil_eq wr⟩
          | some x =>
            obtain ⟨h1, h2⟩ := HW.out.hB x hb
            obtain ⟨g, c, rfl, -, -, -⟩ := Kd.R_form h1 (by rw [h2, HGI.out.sl]; have := HNB.out; omega)
            exact ⟨_, _, _, rfl, some_eq ⟨g, 0, none⟩ x.length c wr⟩
        obtain ⟨vA, vn, vc, rfl, hnil⟩ := hnil
        obtain ⟨bn, hbn⟩ : ∃ bn, decide (s.best = none) = bn := ⟨_, rfl⟩
        rw [hbn] at hnil
        have HBN := Aside0.mk hbn
        clear hbn
        go_upto_region 16 with fail
        go_cut [101] (fun s101 wc => s101 = .bool (decide (a ≤ t.size) && bn && (decide (a = fr) || !anch)) ∧ wr = wc)
        case first =>
          by_cases g1 : a ≤ t.size
          · have q1 : ((a : Int) ≤ (t.size : Int)) = True := eq_true (by omega)
            cases bn with
            | false =>
              go_wp2_with fail
              go_meet
              case rel => exact ⟨by simp, rfl⟩
            | true =>
              by_cases g2 : a = fr
              · subst g2
                go_wp2_with fail
                go_meet
                case rel => exact ⟨by simp [g1], rfl⟩
              · have q2 : ((a : Int) == (fr : Int)) = false := beq_eq_false_iff_ne.2 (by omega)
                cases anch with
                | true =>
                  go_wp2_with fail
                  go_meet
                  case rel => exact ⟨by simp [g2], rfl⟩
                | false =>
                  go_wp2_with fail
                  go_meet
                  case rel => exact ⟨by simp [g1], rfl⟩
          · have q1 : ((a : Int) ≤ (t.size : Int)) = False := eq_false (by omega)
            go_wp2_with fail
            go_meet
            case rel => exact ⟨by simp [g1], rfl⟩
        case rest =>
          obtain ⟨rfl, rfl⟩ := hcut
          by_cases hgo : a ≤ t.size ∧ s.best = none ∧ (a = fr ∨ anch = false)
          · have hbool : (decide (a ≤ t.size) && bn && (decide (a = fr) || !anch)) = true := by
              rw [← HBN.out]
              simp only [Bool.and_eq_true, Bool.or_eq_true, decide_eq_true_eq, Bool.not_eq_true']
              exact ⟨⟨hgo.1, hgo.2.1⟩, hgo.2.2⟩
            rw [hbool]
            have HGO := Aside0.mk hgo
            obtain ⟨f, r, hr, hnx⟩ := GoI.next (o := 0) (b := 0) HP.out HGI.out hgo.1 hgo.2.1 hgo.2.2 hfa
            have HRR := Aside0.mk hr
            have HNX := Aside0.mk hnx
            clear hr hnx hbool hgo x0 x1 x2 e6 hnil
            go_wp2_with fail
            refine (from_walk HP.out t long HGX.out HSZ.out f HW.out (HCK5.out.stay HGX.out HB.out) (Nat.le_trans HW.out.bw (Nat.le_of_lt (blk_lt HW.out.hW))) HGO.out.1 (by rw [HGI.out.sl]; rfl) HGI.out.small HGI.out.steps HRR.out).mono ?_
            intro e w7 hpost
            unfold FromPost at hpost
            obtain ⟨rfl, ⟨vj7, vs7, vb7, hw7⟩, ⟨k1, k2, k3⟩, hb7⟩ := hpost
            have HW7 := Aside0.mk hw7
            have HB7 := Aside0.mk (HB.out.trans hb7)
            have HGI7 := Aside0.mk (HNX.out k1 k2 k3)
            have hat := HGO.out.1
            clear hw7 hb7 k1 k2 k3 HW HB HGI
            go_wp2_with fail
            go_roundg (t.size + 2 - (a + 1))
            case measure => omega
            case rel => exact ⟨a + 1, r.1, vj7, vs7, vb7, rfl, by omega, by omega, by omega, HW7, HGI7, HB7⟩
          · have hbool : (decide (a ≤ t.size) && bn && (decide (a = fr) || !anch)) = false := by
              rw [← HBN.out, Bool.eq_false_iff]
              intro hh
              simp only [Bool.and_eq_true, Bool.or_eq_true, decide_eq_true_eq, Bool.not_eq_true'] at hh
              exact hgo ⟨hh.1.1, hh.1.2, hh.2⟩
            rw [hbool]
            have HEN := Aside0.mk (HGI.out.ends hgo)
            have HF := Aside0.mk ((HB.out.block (X + 1) (by omega)).trans HF5.out)
            clear hbool hgo x0 x1 x2
            have hbase := blk_lt HF.out
            have HGW := Aside0.mk (show X + 1 < gw from HW.out.bw)
            have k0 := (blk_cell HF.out 0).trans rfl
            have k1 := (blk_cell HF.out 1).trans rfl
            have f0 := blk_frozen HF.out 0
            have f1 := blk_frozen HF.out 1
            have HE7 := Aside0.mk (show wr.cell? ⟨gw, 7, none⟩ = some (.int .i64 s.steps) from (blk_cell HW.out.hW 7).trans rfl)
            have HBW := Aside0.mk (show Below W.heap.size W wr from HB5'.out.trans (HB.out.mono (by have := HXE.out; omega)))
            have HE6 := Aside0.mk e6
            cases bn with
            | true =>
              have hbn := HBN.out
              rw [decide_eq_true_eq] at hbn
              go_upto_region 20 with fail
              go_region_held3 (fun W => W.cell? ⟨gw, 7, none⟩ = some (.int .i64 s.steps)) (first | exact HE7.out | exact (World.cell?_of_block (a := ⟨gw, 7, none⟩) ((Below.heap_setCell _ _ _ _ (show gw ≠ X + 1 by have := HGW.out; omega)).trans (Below.heap_setCell _ _ _ _ (show gw ≠ X + 1 by have := HGW.out; omega)))).trans HE7.out) (fail)
              go_wp2_with fail
              refine bodyPost_ret (results_ctt rfl _ _ (X + 1) 34 #[.bool false, .slice none 0 0] (0, 0) _ rfl (blk_put (blk_put HF.out 0 _ rfl) 1 _ rfl) Try.underlying34 rfl (by kernel_rfl)) rfl (HPO.out _ _ s.steps (.inl ⟨by rw [HEN.out, hbn], rfl⟩) ?_)
              exact (below_set (below_set HBW.out (by have := HXE.out; omega)) (by have := HXE.out; omega)).drew
            | false =>
              have hbn := HBN.out
              rw [decide_eq_false_iff_not] at hbn
              obtain ⟨x, hx⟩ := Option.ne_none_iff_exists'.1 hbn
              obtain ⟨hRb, hRl⟩ := HW.out.hB x hx
              have HRB := Aside0.mk hRb
              have HFN := Aside0.mk (show ∀ k, (Value.slice vA vn vc).ownBlock = some k → k ≠ X + 1 from fun k hk e => by have := Kd.R_base HRB.out k hk; omega)
              clear hRb hRl hbn
              go_upto_region 21 with fail
              go_region_held3 (fun W => W.cell? ⟨gw, 6, none⟩ = some (.slice vA vn vc) ∧ W.cell? ⟨gw, 7, none⟩ = some (.int .i64 s.steps)) (first | exact And.intro HE6.out HE7.out | exact And.intro ((World.cell?_of_block (a := ⟨gw, 6, none⟩) ((Below.heap_setCell _ _ _ _ (show gw ≠ X + 1 by have := HGW.out; omega)).trans (Below.heap_setCell _ _ _ _ (show gw ≠ X + 1 by have := HGW.out; omega)))).trans HE6.out) ((World.cell?_of_block (a := ⟨gw, 7, none⟩) ((Below.heap_setCell _ _ _ _ (show gw ≠ X + 1 by have := HGW.out; omega)).trans (Below.heap_setCell _ _ _ _ (show gw ≠ X + 1 by have := HGW.out; omega)))).trans HE7.out)) (fail)
              go_wp2_with fail
              refine bodyPost_ret (results_ctt rfl _ _ (X + 1) 34 #[.bool true, .slice vA vn vc] (0, 0) _ rfl (blk_put (blk_put HF.out 0 _ rfl) 1 _ rfl) Try.underlying34 rfl (by kernel_rfl)) rfl (HPO.out _ _ s.steps (.inr ⟨x, _, by rw [HEN.out, hx], rfl, ?_⟩) ?_)
              · exact Kd.R_lower (R_stay HRB.out (fun k hk => (Below.heap_setCell _ _ _ _ (HFN.out k hk)).trans (Below.heap_setCell _ _ _ _ (HFN.out k hk))) (fun _ _ => trivial)) (by have := HXE.out; omega)
              · exact (below_set (below_set HBW.out (by have := HXE.out; omega)) (by have := HXE.out; omega)).drew
/-- Run, whatever is asked. -/
theorem run_at {l : List I5} {a0 b : Int} {o : List Int} {W : World} {gc : Nat} (hP : ProgOk l a0 b) (hck : Ck W gc l a0 b o) (t : ByteArray) (ht : t.size ≤ 1000000) (from_ : Int) (anch long : Bool) (budget : Int) :
    Calls Try.prog 8 #[.pointer (some ⟨gc, 0, none⟩), askV t from_ anch long, .int .i64 budget] W (RunPost W l t a0 b from_ anch long budget) := by
  by_cases hf : from_ < 0 ∨ (t.size : Int) < from_
  · exact run_out (o := o) t from_ anch long budget hf
  · by_cases hp : budget < (pairsV l.length t.size : Nat) ∨ 262144 < pairsV l.length t.size
    · exact run_refused hck hP.len.2 t ht from_ anch long budget (by omega) (by omega) hp
    · exact run_go hP hck t ht from_ anch long budget (by omega) (by omega) (by omega) (by omega)
end Go.Proofs.YtjajehjhonabdaaX
