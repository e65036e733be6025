import Derived.Sort.Grow
import Derived.Sort.Row
import Derived.Shelf.GgSortFunc.RowK
import Derived.Shelf.GgSortFunc.InsertionK
import Derived.Test.YtoihlfiacnljhaaWWords
import Derived.Test.YtoihlfiacnljhaaWKept
import Derived.Test.YtoihlfiacnljhaaXShelf
import Derived.Below
import Derived.WalkKit
import Derived.KernelRfl
import Derived.Deep.QuietTactic
import Derived.BigQuiet
import Derived.Deep.RegionHeld3
import Derived.RegionTactic
import Derived.Test.YtoihlfiacnljhaaWMore
namespace Go.Proofs.YtoihlfiacnljhaaX
open Go.RowKit Go.Sort Go.Proofs.YtoihlfiacnljhaaW.PrintWords

/-! Rows of the call's own, before and behind the library's sorts. -/
section
variable {α : Type} [Inhabited α]
theorem holds_of_own {enc : α → Value} {w : World} {base : Nat} {e : TypeId} {sz g n cap : Nat} {xs : List Value} (d : Array α)
    (h : w.ownsRow base e sz (.slice (some ⟨g, 0, none⟩) n cap) n xs) (hx : xs = d.toList.map enc) : Holds enc w g 0 d := by
  obtain ⟨hl, h2⟩ := h
  rcases h2 with ⟨h0, _⟩ | ⟨g', cap', cur, hv, _, hh, _, _, hc, ht⟩
  · cases h0
  injection hv with h3 _ _
  injection h3 with h3
  injection h3 with h3 _ _
  subst h3
  intro j hj
  have hlen : n * sz = d.size := by rw [← hl, hx]; simp
  refine ⟨?_, by simp [World.frozen?, hh]⟩
  have h1 : (cur.toList.take (n * sz))[j]? = (d.toList.map enc)[j]? := by rw [ht, hx]
  rw [List.getElem?_take_of_lt (by omega)] at h1
  simp only [World.cell?, hh, Nat.zero_add]
  simp only [Option.isSome_none, Bool.false_eq_true, if_false]
  rw [← Array.getElem?_toList, h1]
  simp [hj]
theorem heap_put {enc : α → Value} {w : World} {g n : Nat} {os : Array Obj} {cur : Array Value} {e : TypeId} {fr : Nat × Nat} (d : Array α) (hb : w.heap[g]? = some (.cells cur e fr)) :
    (grow (putRow enc (Sort.ahead w n) g 0 d) os).heap[g]? = some (.cells (putCells enc 0 d cur) e fr) := by
  have hg : g < w.heap.size := (Array.getElem?_eq_some_iff.1 hb).1
  rw [heap_grow_old _ _ (by simpa using hg)]
  simp [putRow, mapBlock, Sort.ahead, Array.getElem?_modify, hb, onCells]
theorem grownBy_put {enc : α → Value} {w : World} {g n : Nat} {os : Array Obj} (d : Array α) : w.grownBy (grow (putRow enc (Sort.ahead w n) g 0 d) os) (some g) := by
  refine ⟨rfl, rfl, rfl, by simp, fun k hk hne => ?_⟩
  rw [heap_grow_old _ _ (by simpa using hk)]
  have : g ≠ k := fun e => hne (by rw [e])
  simp [putRow, mapBlock, Sort.ahead, Array.getElem?_modify, this]
theorem take_putCells {enc : α → Value} (cur : Array Value) (d : Array α) (h : d.size ≤ cur.size) : (putCells enc 0 d cur).toList.take d.size = d.toList.map enc := by
  apply List.ext_getElem?
  intro j
  by_cases hj : j < d.size
  · rw [List.getElem?_take_of_lt hj, Array.getElem?_toList]
    simp [putCells, hj, show j < cur.size by omega]
  · rw [List.getElem?_take_eq_none (by omega), List.getElem?_eq_none (by simp; omega)]
theorem own_put {enc : α → Value} {w : World} {base : Nat} {e : TypeId} {sz g n cap m : Nat} {os : Array Obj} {xs : List Value} (d : Array α)
    (h : w.ownsRow base e sz (.slice (some ⟨g, 0, none⟩) n cap) n xs) (hd : d.size = n * sz) :
    (grow (putRow enc (Sort.ahead w m) g 0 d) os).ownsRow base e sz (.slice (some ⟨g, 0, none⟩) n cap) n (d.toList.map enc) := by
  obtain ⟨hl, h2⟩ := h
  rcases h2 with ⟨h0, _⟩ | ⟨g', cap', cur, hv, hb, hh, h1, h3, hc, ht⟩
  · cases h0
  injection hv with hv1 _ hv3
  injection hv1 with hv1
  injection hv1 with hv1 _ _
  subst hv1; subst hv3
  have hle : n * sz ≤ cap * sz := Nat.mul_le_mul_right _ h1
  refine ⟨by simp [hd], .inr ⟨g, cap, _, rfl, hb, heap_put d hh, h1, h3, by simp [putCells, hc], ?_⟩⟩
  rw [← hd]
  exact take_putCells cur d (by omega)
theorem own_block_lt {w : World} {base : Nat} {e : TypeId} {sz g n cap : Nat} {xs : List Value} (h : w.ownsRow base e sz (.slice (some ⟨g, 0, none⟩) n cap) n xs) : g < w.heap.size ∧ base ≤ g ∧ n ≤ maxLen := by
  rcases h.2 with ⟨h0, _⟩ | ⟨g', cap', cur, hv, hb, hh, h1, h3, hc, ht⟩
  · cases h0
  injection hv with hv1 _ hv3
  injection hv1 with hv1
  injection hv1 with hv1 _ _
  subst hv1; subst hv3
  exact ⟨(Array.getElem?_eq_some_iff.1 hh).1, hb, by omega⟩
theorem own_cases {w : World} {base : Nat} {e : TypeId} {sz n : Nat} {v : Value} {xs : List Value} (h : w.ownsRow base e sz v n xs) : (v = .slice none 0 0 ∧ n = 0) ∨ ∃ g cap, v = .slice (some ⟨g, 0, none⟩) n cap := by
  rcases h.2 with h0 | ⟨g', cap', cur, hv, _⟩
  · exact .inl h0
  · exact .inr ⟨g', cap', hv⟩
omit [Inhabited α] in
/-- What a row of fixed elements holds is told by its elements alone. -/
theorem reps_flat {R : α → List Value → Prop} {enc : α → List Value} {k : Nat} (hR : ∀ p c, R p c → c = enc p) : ∀ {ps : List α} {cs : List Value}, Reps R k ps cs → (∀ p, (enc p).length = k) → cs = ps.flatMap enc
  | [], cs, h, hk => by
    have := h.1
    simpa using this
  | p :: ps, cs, h, hk => by
    have h0 := hR p _ (h.2 0 p rfl)
    rw [Nat.zero_mul, List.drop_zero] at h0
    have hl : cs.length = (ps.length + 1) * k := by simpa using h.1
    have h2 : Reps R k ps (cs.drop k) := by
      refine ⟨by rw [List.length_drop, hl, Nat.add_mul, Nat.one_mul]; omega, fun j q hq => ?_⟩
      have := h.2 (j + 1) q (by simpa using hq)
      rwa [List.drop_drop, show k + j * k = (j + 1) * k by rw [Nat.add_mul, Nat.one_mul]; omega]
    have ih := reps_flat hR h2 hk
    rw [List.flatMap_cons, ← ih, ← h0, List.take_append_drop]
omit [Inhabited α] in
theorem reps_of_flat {R : α → List Value → Prop} {enc : α → List Value} {k : Nat} (hR : ∀ p, R p (enc p)) (hk : ∀ p, (enc p).length = k) : ∀ (ps : List α), Reps R k ps (ps.flatMap enc)
  | [] => Reps.none _ _
  | p :: ps => by
    have ih := reps_of_flat hR hk ps
    refine ⟨by rw [List.flatMap_cons, List.length_append, ih.1, hk, List.length_cons, Nat.add_mul, Nat.one_mul]; omega, fun j q hq => ?_⟩
    cases j with
    | zero =>
      simp at hq
      subst hq
      rw [Nat.zero_mul, List.drop_zero, List.flatMap_cons, List.take_append_of_le_length (by rw [hk]; exact Nat.le_refl _), ← hk p, List.take_length]
      exact hR p
    | succ j =>
      have := ih.2 j q (by simpa using hq)
      rw [List.flatMap_cons, Nat.add_mul, Nat.one_mul, Nat.add_comm, ← List.drop_drop]
      rw [show List.drop k (enc p ++ List.flatMap enc ps) = List.flatMap enc ps from by rw [← hk p]; exact List.drop_left]
      exact this
theorem flatK_list (enc : α → List Value) (k : Nat) (hk : ∀ x, (enc x).length = k) (d : Array α) : (flatK enc k d).toList = d.toList.flatMap enc := by
  have hlen : ∀ l : List α, (l.flatMap enc).length = l.length * k := fun l => by
    induction l with
    | nil => simp
    | cons a t ih => rw [List.flatMap_cons, List.length_append, ih, hk, List.length_cons, Nat.add_mul, Nat.one_mul]; omega
  have key : ∀ (l : List α) (t : Nat), t < l.length * k → (l.flatMap enc)[t]? = some ((enc l[t / k]!)[t % k]!) := by
    intro l
    induction l with
    | nil => intro t h; simp at h
    | cons a l ih =>
      intro t h
      have k0 : 0 < k := by rcases Nat.eq_zero_or_pos k with h0 | h0; · subst h0; simp at h
                            · exact h0
      rw [List.flatMap_cons]
      by_cases ht : t < k
      · rw [List.getElem?_append_left (by rw [hk]; exact ht), Nat.div_eq_of_lt ht, Nat.mod_eq_of_lt ht]
        simp [hk, ht]
      · rw [List.getElem?_append_right (by rw [hk]; omega), hk, ih (t - k) (by simp at h; rw [Nat.add_mul, Nat.one_mul] at h; omega)]
        have e1 : t / k = (t - k) / k + 1 := by rw [Nat.div_eq_sub_div k0 (by omega)]
        have e2 : t % k = (t - k) % k := by rw [Nat.mod_eq_sub_mod (by omega)]
        rw [e1, e2]
        simp
  apply List.ext_getElem?
  intro t
  by_cases ht : t < d.size * k
  · rw [key d.toList t (by simpa using ht)]
    have h1 := get_flatK enc k d t ht
    rw [Array.getElem?_toList, Array.getElem?_eq_getElem (by simpa using ht), ← getElem!_pos (flatK enc k d) t (by simpa using ht), h1]
    have e3 : d.toList[t / k]! = d[t / k]! := by rw [List.getElem!_eq_getElem?_getD, Array.getElem?_toList, Array.getElem!_eq_getD]; simp [Array.getD_eq_getD_getElem?]
    rw [e3]
  · rw [List.getElem?_eq_none (by simp; omega), List.getElem?_eq_none (by rw [hlen]; simp; omega)]
end

theorem flat_len {α : Type} {enc : α → List Value} (k : Nat) (hk : ∀ x, (enc x).length = k) : ∀ l : List α, (l.flatMap enc).length = l.length * k
  | [] => by simp
  | a :: t => by rw [List.flatMap_cons, List.length_append, flat_len k hk t, hk, List.length_cons, Nat.add_mul, Nat.one_mul]; omega
/-- A kind whose elements are told by their cells alone. -/
structure Fixed {α : Type} (d : Kd α) (enc : α → List Value) : Prop where
  len : ∀ x, (enc x).length = d.sz
  out : ∀ {w base ok x cs}, d.M w base ok x cs → cs = enc x
  make : ∀ w base ok x, d.M w base ok x (enc x)
theorem fixed_R {α : Type} {d : Kd α} {enc : α → List Value} (hf : Fixed d enc) {e : Nat} {w : World} {base : Nat} {ok : Nat → Prop} {v : Value} {xs : List α} :
    d.R e w base ok v xs ↔ (∀ k, v.ownBlock = some k → ok k) ∧ w.ownsRow base e d.sz v xs.length (xs.flatMap enc) := by
  constructor
  · rintro ⟨h1, inner, ho, hr⟩
    obtain rfl := reps_flat (fun p c h => hf.out h) hr hf.len
    exact ⟨h1, ho⟩
  · rintro ⟨h1, ho⟩
    exact ⟨h1, _, ho, reps_of_flat (fun p => hf.make _ _ _ p) hf.len xs⟩
/-- Behind a call that has laid another list of the same length into a row of the call's own. -/
theorem row_put {α β : Type} [Inhabited β] {d : Kd α} {enc : α → List Value} (hf : Fixed d enc) {e : Nat} {w0 w : World} {P : Nat → Prop} {g n cap m : Nat} {xs ys : List α} {os : Array Obj} {enc' : β → Value} (F : Array β)
    (hB : Below w0.heap.size w0 w) (h : d.R e w w0.heap.size P (.slice (some ⟨g, 0, none⟩) n cap) xs) (hl : ys.length = xs.length) (hF : F.toList.map enc' = ys.flatMap enc) :
    d.R e (grow (putRow enc' (Sort.ahead w m) g 0 F) os) w0.heap.size (fun k_ => (P k_ ∨ w.heap.size ≤ k_)) (.slice (some ⟨g, 0, none⟩) n cap) ys ∧ Below w0.heap.size w0 (grow (putRow enc' (Sort.ahead w m) g 0 F) os) ∧ Kept w (grow (putRow enc' (Sort.ahead w m) g 0 F) os) (fun k_ => P k_) := by
  have h' := (fixed_R hf).1 h
  have hg : P g := h'.1 g rfl
  have hown := h'.2
  have hn : n = xs.length := by
    obtain ⟨A, c, hv⟩ := Kd.R_slice h
    injection hv
  subst hn
  have hlt := own_block_lt hown
  have hgb := grownBy_put (enc := enc') (w := w) (g := g) (n := m) (os := os) F
  have hsz : F.size = xs.length * d.sz := by
    have := congrArg List.length hF
    rw [List.length_map, Array.length_toList] at this
    rw [this, ← hl, flat_len _ hf.len]
  refine ⟨(fixed_R hf).2 ⟨fun k hk => .inl (by injection hk with hk; subst hk; exact hg), ?_⟩, hB.grown hgb hB.size (fun k hk => by injection hk with hk; subst hk; exact hlt.2.1), Kept.of_grown (S := fun k_ => P k_) hgb (Kept.refl w _) (fun k hk => .inl (by injection hk with hk; subst hk; exact hg))⟩
  have := own_put (enc := enc') (m := m) (os := os) F hown hsz
  rw [hF] at this
  rw [hl]
  exact this
theorem row_none {α : Type} {d : Kd α} {e : Nat} {w0 w : World} {P : Nat → Prop} {v : Value} {xs : List α} (hB : Below w0.heap.size w0 w) (h : d.R e w w0.heap.size P v xs) :
    d.R e w w0.heap.size (fun k_ => (P k_ ∨ w.heap.size ≤ k_)) v xs ∧ Below w0.heap.size w0 w ∧ Kept w w (fun k_ => P k_) :=
  ⟨Kd.R_mono h (fun _ hk => .inl hk), hB, Kept.refl _ _⟩
theorem fixed_int (k : IntKind) : Fixed (Kd.int k) (fun x => [.int k x]) := ⟨fun _ => rfl, fun h => h, fun _ _ _ _ => rfl⟩
end Go.Proofs.YtoihlfiacnljhaaX

namespace Go.Proofs.YtoihlfiacnljhaaX
open Go.RowKit Go.Sort Go.Lib Go.Proofs.YtoihlfiacnljhaaW.PrintWords
abbrev Rg := Int × Int
def encRg (x : Int × Int) : List Value := [.int .i64 x.1, .int .i64 x.2]
def cmpLo (x y : Int × Int) : Int := Lib.compareInt x.1 y.1
theorem ltLo (x y : Int × Int) : ltOf cmpLo x y = decide (x.1 < y.1) := by
  unfold ltOf cmpLo Lib.compareInt
  by_cases h1 : x.1 < y.1
  · simp [h1]
  · by_cases h2 : y.1 < x.1 <;> simp [h1, h2]
theorem swoLo : SWO (ltOf cmpLo) where
  irrefl x := by rw [ltLo]; simp
  trans x y z h1 h2 := by rw [ltLo] at *; simp at *; omega
  ntrans x y z h1 h2 := by rw [ltLo] at *; simp at *; omega
set_option maxHeartbeats 1000000 in
/-- ranges.Norm's closure: 'cmp.Compare(a.Lo, b.Lo)': in whatever world: two blocks are laid. -/
theorem closure_lo (x y : Int × Int) (W : World) : Calls Try.prog 46 #[.agg #[.int .i64 x.1, .int .i64 x.2], .agg #[.int .i64 y.1, .int .i64 y.2]] W fun e w' => e = .returned (.int .i64 (cmpLo x y)) ∧ ∃ q os', w' = grow (W.drewN q) os' := by
  have hcon := fun W' => AnyG.cmp_Compare_int Try.lay_cmpInt x.1 y.1 W'
  change ∀ W', Calls Try.prog 47 _ _ _ at hcon
  unfold cmpLo
  generalize Lib.compareInt x.1 y.1 = r at hcon ⊢
  go_enter Try.func46, Try.ntmps46
  go_wp2_with (go_at_call 47; refine (hcon _).mono ?_; rintro e w' ⟨rfl, rfl⟩)
  go_ret
  exact ⟨rfl, 0, _, by rw [alloc_eq_grow, alloc_eq_grow, grow_grow]; rfl⟩
theorem cmpLays_lo (blk off size : Nat) (w : World) : CmpLays Try.prog 46 #[] encRg 2 cmpLo blk off size w :=
  fun _ _ _ _ x y => closure_lo x y _
/-- What the library's sort makes of a list, by Lo. -/
def sortLo (l : List (Int × Int)) : List (Int × Int) := (Sort.pdq (ltOf cmpLo) l.toArray 0 l.length (Lib.bitLen l.length) true true).toList
theorem sortLo_perm (l : List (Int × Int)) : (sortLo l).Perm l := by
  have h := (pdq_sorts (ltOf cmpLo) swoLo l.toArray 0 l.length (Lib.bitLen l.length) true true (Nat.zero_le _) (by simp) (Or.inl rfl)).1
  obtain ⟨h1, _, h3⟩ := h
  unfold sortLo
  generalize Sort.pdq (ltOf cmpLo) l.toArray 0 l.length (Lib.bitLen l.length) true true = d at h1 h3 ⊢
  have e1 : d.extract 0 l.length = d := by rw [show l.length = d.size by rw [h1]; simp]; simp
  have e2 : l.toArray.extract 0 l.length = l.toArray := by simp
  rw [e1, e2] at h3
  simpa using h3
theorem sortLo_sorted (l : List (Int × Int)) : (sortLo l).Pairwise (fun x y => x.1 ≤ y.1) := by
  have h := (pdq_sorts (ltOf cmpLo) swoLo l.toArray 0 l.length (Lib.bitLen l.length) true true (Nat.zero_le _) (by simp) (Or.inl rfl))
  obtain ⟨⟨h1, _, _⟩, h2⟩ := h
  unfold sortLo
  generalize Sort.pdq (ltOf cmpLo) l.toArray 0 l.length (Lib.bitLen l.length) true true = d at h1 h2 ⊢
  rw [List.pairwise_iff_getElem]
  intro i j hi hj hij
  have hj' : j < d.size := by simpa using hj
  have hi' : i < d.size := by omega
  have := h2 i j (Nat.zero_le _) hij (by simpa [h1] using hj')
  rw [ltLo, getElem!_pos d j hj', getElem!_pos d i hi'] at this
  simp at this ⊢
  omega
/-- slices.SortFunc of ranges by Lo, over a row of the call's own. -/
theorem sortRange_calls {α : Type} {d : Kd α} (of : α → Int × Int) (back : Int × Int → α) (hbo : ∀ x, of (back x) = x) (hf : Fixed d (fun x => encRg (of x))) (P0_ : Nat → Prop) (u9000_ : Value) (l0 : List α) (w0 w : World) (hB : RowKit.Below w0.heap.size w0 w) (ho0 : Kd.R d 41 w w0.heap.size P0_ u9000_ l0) (hs : l0.length < 4611686018427387904) :
    Calls Try.prog 45 #[u9000_, .func (.func 46) #[] #[]] w fun e w' => e = .returned (.tuple #[]) ∧ Kd.R d 41 w' w0.heap.size (fun k_ => (P0_ k_ ∨ w.heap.size ≤ k_)) u9000_ ((sortLo (l0.map of)).map back) ∧ RowKit.Below w0.heap.size w0 w' ∧ Kept w w' (fun k_ => P0_ k_) := by
  have hR := (fixed_R hf).1 ho0
  rcases own_cases hR.2 with ⟨rfl, h0⟩ | ⟨g, cap, rfl⟩
  · obtain rfl := List.length_eq_zero_iff.1 h0
    have e : (sortLo (([] : List α).map of)).map back = [] := by
      have := (sortLo_perm []).length_eq
      simp at this
      simp [this]
    rw [e]
    exact (AnyF.slices_SortFunc_none { Try.lay_sortFuncRange with } none 0 (.func (.func 46) #[] #[]) w).mono fun e w' ⟨he, hw⟩ => by
      subst hw
      exact ⟨he, row_none hB ho0⟩
  · have hb := own_block_lt hR.2
    have eg : ∀ args w, (callFunc 46 args).run Try.prog w = .ok (.enter 46 args) w := enters_of Try.func46 (by kernel_rfl) rfl
    have hfl : ∀ l : List (Int × Int), (flatK encRg 2 l.toArray).toList = l.flatMap encRg := fun l => by rw [flatK_list encRg 2 (fun _ => rfl)]
    have hH : HoldsK encRg 2 w g 0 (l0.map of).toArray := holds_of_own (enc := id) (flatK encRg 2 (l0.map of).toArray) hR.2 (by rw [List.map_id, hfl, List.flatMap_map])
    have hcon := AnyQ.slices_SortFunc_eq Try.lay_sortFuncRange 2 Try.isAgg41 Try.sizeOf41 encRg (fun _ => rfl) (fun x v hv => by simp [encRg] at hv; rcases hv with rfl | rfl <;> rfl) cmpLo swoLo 46 #[] g 0 cap (l0.map of).toArray w eg (cmpLays_lo g 0 _ w) hH hb.1 (by simpa using hs)
    change Calls Try.prog 45 _ _ _ at hcon
    rw [show (l0.map of).toArray.size = l0.length by simp] at hcon
    refine hcon.mono fun e w' ⟨he, n, os, hw⟩ => ?_
    subst hw
    have hlen : (sortLo (l0.map of)).length = l0.length := by rw [(sortLo_perm _).length_eq]; simp
    refine ⟨he, row_put (enc' := id) hf _ hB ho0 (by simpa using hlen) ?_⟩
    rw [List.map_id, flatK_list encRg 2 (fun _ => rfl), List.flatMap_map]
    simp only [hbo]
    unfold sortLo
    simp
end Go.Proofs.YtoihlfiacnljhaaX

namespace Go.Proofs.YtoihlfiacnljhaaX
open Go.RowKit Go.Sort Go.Lib Go.Proofs.YtoihlfiacnljhaaW.PrintWords
set_option maxHeartbeats 1000000 in
theorem index_none (p : Option Addr) (cap : Nat) (fv : Value) (w : World) : Calls Try.prog 49 #[.slice p 0 cap, fv] w fun e w' => e = .returned (.int .i64 (-1)) ∧ w' = w := by
  go_enter Try.func49, Try.ntmps49
  go_wp2
  refine wp_loop_rounds 1 ?_
  rw [rounds_succ]
  go_wp2
  go_ret
  exact ⟨rfl, rfl⟩
set_option maxHeartbeats 1000000 in
theorem contains_none (p : Option Addr) (cap : Nat) (fv : Value) (w : World) : Calls Try.prog 39 #[.slice p 0 cap, fv] w fun e w' => e = .returned (.bool false) ∧ w' = w := by
  go_enter Try.func39, Try.ntmps39
  go_wp2_with (go_at_call 49; refine (index_none _ _ _ _).mono ?_; rintro e w' ⟨rfl, rfl⟩)
  go_ret
  exact ⟨rfl, rfl⟩
set_option maxHeartbeats 1000000 in
theorem pred_has (r : Int) (B : Nat) (w : World) (hB : B < w.heap.size) (hcell : w.cell? ⟨B, 0, none⟩ = some (.int .i64 r)) :
    PredBelow Try.prog 40 #[.pointer (some ⟨B, 0, none⟩)] (fun x => .agg (encRg x).toArray) (fun x => decide (x.1 ≤ r) && decide (r ≤ x.2)) w := fun W x hb => by
  have hc : W.cell? ⟨B, 0, none⟩ = some (.int .i64 r) := (hb.cell (p := ⟨B, 0, none⟩) hB).trans hcell
  have hBW : B < W.heap.size := Nat.lt_of_lt_of_le hB hb.size
  have hne : B ≠ W.heap.size := by omega
  show Calls Try.prog 40 #[.agg #[.int .i64 x.1, .int .i64 x.2], .pointer (some ⟨B, 0, none⟩)] W _
  have HB := Aside0.mk hb
  clear hb
  obtain ⟨a, b⟩ := x
  dsimp only
  by_cases h1 : a ≤ r
  · have hd1 : decide (a ≤ r) = true := decide_eq_true h1
    rw [hd1, Bool.true_and]
    go_enter Try.func40, Try.ntmps40
    go_wp2
    go_ret
    exact ⟨rfl, HB.out.alloc HB.out.size _⟩
  · have hd1 : decide (a ≤ r) = false := decide_eq_false h1
    rw [hd1, Bool.false_and]
    go_enter Try.func40, Try.ntmps40
    go_wp2
    go_ret
    exact ⟨rfl, HB.out.alloc HB.out.size _⟩
def inL (l : List (Int × Int)) (r : Int) : Bool := l.any fun x => decide (x.1 ≤ r) && decide (r ≤ x.2)
def hasL (l : List (Int × Int)) (r : Int) : Bool := decide (0 ≤ r) && (decide (r ≤ 1114111) && inL l r)
/-- A row that is read: its cells, address and all. -/
theorem row_cells {α : Type} {d : Kd α} {of : α → Int × Int} (hK : ∀ {w x cs}, d.K w x cs → cs = encRg (of x)) (hsz : d.sz = 2) {w : World} {A : Option Addr} {l : List α} (h : Kd.C d w A l.length l) (hp : 0 < l.length) :
    ∃ b off, A = some ⟨b, off, none⟩ ∧ b < w.heap.size ∧ l.length ≤ 9223372036854775807 ∧ ∀ j, j < (l.map of).length → ∀ i v, (encRg (l.map of)[j]!)[i]? = some v → w.cell? ⟨b, off + j * 2 + i, none⟩ = some v := by
  obtain ⟨_, hn, hc0⟩ := h
  obtain ⟨ad, rfl, hc⟩ := hc0 hp
  clear hc0
  obtain ⟨b, off, spot⟩ := ad
  have key : ∀ j (hj : j < l.length) i v, (encRg (of l[j]))[i]? = some v → w.cell? ((⟨b, off, spot⟩ : Addr).add (j * 2 + i)) = some v := by
    intro j hj i v hi
    obtain ⟨c, _, hk, hcell⟩ := hc j l[j] (List.getElem?_eq_getElem hj)
    obtain rfl := hK hk
    have := hcell i v hi
    rwa [hsz] at this
  have h0 := key 0 hp 0 _ rfl
  have hs : spot = none := by
    rw [show 0 * 2 + 0 = 0 from rfl] at h0
    simp only [Addr.add, if_true, World.cell?] at h0
    cases spot with
    | none => rfl
    | some q =>
      revert h0
      split
      · simp
      · simp
  subst hs
  have hadd : ∀ n, (⟨b, off, none⟩ : Addr).add n = ⟨b, off + n, none⟩ := fun n => by unfold Addr.add; split <;> simp_all
  refine ⟨b, off, rfl, ?_, hn, fun j hj i v hi => ?_⟩
  · have := World.block_lt_of_cell? w _ h0
    rwa [hadd] at this
  · have hj' : j < l.length := by simpa using hj
    have := key j hj' i v (by rw [getElem!_pos (l.map of) j hj] at hi; simpa using hi)
    rwa [hadd, ← Nat.add_assoc] at this
set_option maxHeartbeats 1000000 in
theorem contains_in {α : Type} {d : Kd α} {of : α → Int × Int} (hK : ∀ {w x cs}, d.K w x cs → cs = encRg (of x)) (hsz : d.sz = 2) (A : Option Addr) (c : Nat) (l : List α) (r : Int) (w : World) (B : Nat) (hB : B < w.heap.size) (hcell : w.cell? ⟨B, 0, none⟩ = some (.int .i64 r)) (h : Kd.C d w A l.length l) :
    Calls Try.prog 39 #[.slice A l.length c, .func (.func 40) #[] #[.pointer (some ⟨B, 0, none⟩)]] w fun e w' => e = .returned (.bool (inL (l.map of) r)) ∧ Below w.heap.size w w' := by
  by_cases hp : 0 < l.length
  · obtain ⟨b, off, rfl, hb, hn, hc⟩ := row_cells (of := of) hK hsz h hp
    have eg : ∀ args w, (callFunc 40 args).run Try.prog w = .ok (.enter 40 args) w := enters_of Try.func40 (by kernel_rfl) rfl
    have hcon := AnyQ.slices_ContainsFunc Try.lay_containsFuncRange 2 Try.isAgg41 Try.sizeOf41 encRg (fun _ => rfl) (fun x => decide (x.1 ≤ r) && decide (r ≤ x.2)) 40 #[.pointer (some ⟨B, 0, none⟩)] eg b off l.length c (l.map of) w (pred_has r B w hB hcell) (by simp) hn hb hc
    change Calls Try.prog 39 _ _ _ at hcon
    have e : (l.map of).take l.length = l.map of := List.take_of_length_le (by simp)
    rw [e] at hcon
    exact hcon
  · have e : l = [] := List.length_eq_zero_iff.1 (by omega)
    subst e
    exact (contains_none A c _ w).mono fun e w' ⟨he, hw⟩ => by subst hw; exact ⟨he, Below.refl _ _⟩
set_option maxHeartbeats 1000000 in
/-- ranges.Has. -/
theorem has_any {α : Type} {d : Kd α} {of : α → Int × Int} (hK : ∀ {w x cs}, d.K w x cs → cs = encRg (of x)) (hsz : d.sz = 2) (A : Option Addr) (c : Nat) (l : List α) (r : Int) (w : World) (h : Kd.C d w A l.length l) :
    Calls Try.prog 24 #[.slice A l.length c, .int .i64 r] w fun e w' => e = .returned (.bool (hasL (l.map of) r)) ∧ Below w.heap.size w w' := by
  have hcon := contains_in (of := of) hK hsz A c l r (w.alloc (.cells #[.int .i64 r] 3)) w.heap.size (by simp) (by simp) (Kd.C_alloc h _)
  have HC := Aside0.mk hcon
  clear h hcon
  unfold hasL
  by_cases h1 : 0 ≤ r
  · rw [decide_eq_true h1, Bool.true_and]
    by_cases h2 : r ≤ 1114111
    · rw [decide_eq_true h2, Bool.true_and]
      generalize inL (l.map of) r = q at HC ⊢
      go_enter Try.func24, Try.ntmps24
      go_wp2_with (go_at_call 39; refine HC.out.mono ?_; rintro e w' ⟨rfl, hb⟩)
      go_ret
      exact ⟨rfl, ((Below.refl _ w).alloc (Nat.le_refl _) _).trans (hb.mono (by simp))⟩
    · rw [decide_eq_false h2, Bool.false_and]
      go_enter Try.func24, Try.ntmps24
      go_wp2
      go_ret
      exact ⟨rfl, (Below.refl _ w).alloc (Nat.le_refl _) _⟩
  · rw [decide_eq_false h1, Bool.false_and]
    go_enter Try.func24, Try.ntmps24
    go_wp2
    go_ret
    exact ⟨rfl, (Below.refl _ w).alloc (Nat.le_refl _) _⟩
end Go.Proofs.YtoihlfiacnljhaaX

namespace Go.Proofs.YtoihlfiacnljhaaX
open Go.RowKit Go.Proofs.YtoihlfiacnljhaaW.PrintWords
/-- A range as two numbers. -/
def kRg : Kd (Int × Int) := Kd.pair (Kd.int .i64) (Kd.int .i64)
theorem kRg_K {w : World} {x : Int × Int} {cs : List Value} (h : kRg.K w x cs) : cs = encRg x := by
  obtain ⟨_, _, rfl, rfl, rfl⟩ := h
  rfl
theorem kRg_mkK (w : World) (x : Int × Int) : kRg.K w x (encRg x) := ⟨[_], [_], rfl, rfl, rfl⟩
theorem kRg_fixed : Fixed kRg encRg where
  len _ := rfl
  out h := by
    obtain ⟨_, _, rfl, rfl, rfl⟩ := h
    rfl
  make _ _ _ x := ⟨[_], [_], rfl, rfl, rfl⟩
theorem kRg_sz : kRg.sz = 2 := rfl
theorem kRg_E : kRg.E = [] := rfl
section
variable {α β : Type} {d : Kd α} {f : β → α} {w : World} {A : Option Addr} {n e base : Nat} {ok : Nat → Prop} {v : Value}
theorem reps_map {R : α → List Value → Prop} {size : Nat} {xs : List β} {cs : List Value} : Reps (fun x c => R (f x) c) size xs cs ↔ Reps R size (xs.map f) cs := by
  constructor
  · rintro ⟨h1, h2⟩
    refine ⟨by simpa using h1, fun j p hp => ?_⟩
    rw [List.getElem?_map] at hp
    obtain ⟨x, hx, rfl⟩ := Option.map_eq_some_iff.1 hp
    exact h2 j x hx
  · rintro ⟨h1, h2⟩
    refine ⟨by simpa using h1, fun j p hp => ?_⟩
    exact h2 j (f p) (by rw [List.getElem?_map, hp]; rfl)
theorem C_iso {xs : List β} : Kd.C (Kd.iso d f) w A n xs ↔ Kd.C d w A n (xs.map f) := by
  constructor
  · rintro ⟨h1, h2, h3⟩
    refine ⟨by simpa using h1, h2, fun h => ?_⟩
    obtain ⟨ad, rfl, h4⟩ := h3 h
    refine ⟨ad, rfl, fun j p hp => ?_⟩
    rw [List.getElem?_map] at hp
    obtain ⟨x, hx, rfl⟩ := Option.map_eq_some_iff.1 hp
    exact h4 j x hx
  · rintro ⟨h1, h2, h3⟩
    refine ⟨by simpa using h1, h2, fun h => ?_⟩
    obtain ⟨ad, rfl, h4⟩ := h3 h
    exact ⟨ad, rfl, fun j p hp => h4 j (f p) (by rw [List.getElem?_map, hp]; rfl)⟩
theorem R_iso {xs : List β} : Kd.R (Kd.iso d f) e w base ok v xs ↔ Kd.R d e w base ok v (xs.map f) := by
  constructor
  · rintro ⟨h1, inner, ho, hr⟩
    exact ⟨h1, inner, by rw [List.length_map]; exact ho, reps_map.1 hr⟩
  · rintro ⟨h1, inner, ho, hr⟩
    rw [List.length_map] at ho
    exact ⟨h1, inner, ho, reps_map (R := d.M w base fun k => ok k ∧ some k ≠ v.ownBlock).2 hr⟩
end
end Go.Proofs.YtoihlfiacnljhaaX
