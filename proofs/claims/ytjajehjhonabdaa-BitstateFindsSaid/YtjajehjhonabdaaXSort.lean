import Derived.Sort.Grow
import Derived.Sort.Row
import Derived.Shelf.GgSortFunc.RowK
import Derived.Shelf.GgSortFunc.InsertionK
import Derived.Test.YtjajehjhonabdaaWWords
import Derived.Test.YtjajehjhonabdaaWKept
namespace Go.Proofs.YtjajehjhonabdaaX
open Go.RowKit Go.Sort Go.Proofs.YtjajehjhonabdaaW.PrintWords

/-! Rows of the call's own, before and behind the library's sorts. -/
section
variable {α : Type} [Inhabited α]
theorem holds_of_own {enc : α → Value} {w : World} {base : Nat} {e : TypeId} {sz g n cap : Nat} {xs : List Value} (d : Array α)
    (h : w.ownsRow base e sz (.slice (some ⟨g, 0, none⟩) n cap) n xs) (hx : xs = d.toList.map enc) : Holds enc w g 0 d := by
  obtain ⟨hl, h2⟩ := h
  rcases h2 with ⟨h0, _⟩ | ⟨g', cap', cur, hv, _, hh, _, _, hc, ht⟩
  · cases h0
  injection hv with h3 _ _
  injection h3 with h3
  injection h3 with h3 _ _
  subst h3
  intro j hj
  have hlen : n * sz = d.size := by rw [← hl, hx]; simp
  refine ⟨?_, by simp [World.frozen?, hh]⟩
  have h1 : (cur.toList.take (n * sz))[j]? = (d.toList.map enc)[j]? := by rw [ht, hx]
  rw [List.getElem?_take_of_lt (by omega)] at h1
  simp only [World.cell?, hh, Nat.zero_add]
  simp only [Option.isSome_none, Bool.false_eq_true, if_false]
  rw [← Array.getElem?_toList, h1]
  simp [hj]
theorem heap_put {enc : α → Value} {w : World} {g n : Nat} {os : Array Obj} {cur : Array Value} {e : TypeId} {fr : Nat × Nat} (d : Array α) (hb : w.heap[g]? = some (.cells cur e fr)) :
    (grow (putRow enc (Sort.ahead w n) g 0 d) os).heap[g]? = some (.cells (putCells enc 0 d cur) e fr) := by
  have hg : g < w.heap.size := (Array.getElem?_eq_some_iff.1 hb).1
  rw [heap_grow_old _ _ (by simpa using hg)]
  simp [putRow, mapBlock, Sort.ahead, Array.getElem?_modify, hb, onCells]
theorem grownBy_put {enc : α → Value} {w : World} {g n : Nat} {os : Array Obj} (d : Array α) : w.grownBy (grow (putRow enc (Sort.ahead w n) g 0 d) os) (some g) := by
  refine ⟨rfl, rfl, rfl, by simp, fun k hk hne => ?_⟩
  rw [heap_grow_old _ _ (by simpa using hk)]
  have : g ≠ k := fun e => hne (by rw [e])
  simp [putRow, mapBlock, Sort.ahead, Array.getElem?_modify, this]
theorem take_putCells {enc : α → Value} (cur : Array Value) (d : Array α) (h : d.size ≤ cur.size) : (putCells enc 0 d cur).toList.take d.size = d.toList.map enc := by
  apply List.ext_getElem?
  intro j
  by_cases hj : j < d.size
  · rw [List.getElem?_take_of_lt hj, Array.getElem?_toList]
    simp [putCells, hj, show j < cur.size by omega]
  · rw [List.getElem?_take_eq_none (by omega), List.getElem?_eq_none (by simp; omega)]
theorem own_put {enc : α → Value} {w : World} {base : Nat} {e : TypeId} {sz g n cap m : Nat} {os : Array Obj} {xs : List Value} (d : Array α)
    (h : w.ownsRow base e sz (.slice (some ⟨g, 0, none⟩) n cap) n xs) (hd : d.size = n * sz) :
    (grow (putRow enc (Sort.ahead w m) g 0 d) os).ownsRow base e sz (.slice (some ⟨g, 0, none⟩) n cap) n (d.toList.map enc) := by
  obtain ⟨hl, h2⟩ := h
  rcases h2 with ⟨h0, _⟩ | ⟨g', cap', cur, hv, hb, hh, h1, h3, hc, ht⟩
  · cases h0
  injection hv with hv1 _ hv3
  injection hv1 with hv1
  injection hv1 with hv1 _ _
  subst hv1; subst hv3
  have hle : n * sz ≤ cap * sz := Nat.mul_le_mul_right _ h1
  refine ⟨by simp [hd], .inr ⟨g, cap, _, rfl, hb, heap_put d hh, h1, h3, by simp [putCells, hc], ?_⟩⟩
  rw [← hd]
  exact take_putCells cur d (by omega)
theorem own_block_lt {w : World} {base : Nat} {e : TypeId} {sz g n cap : Nat} {xs : List Value} (h : w.ownsRow base e sz (.slice (some ⟨g, 0, none⟩) n cap) n xs) : g < w.heap.size ∧ base ≤ g ∧ n ≤ maxLen := by
  rcases h.2 with ⟨h0, _⟩ | ⟨g', cap', cur, hv, hb, hh, h1, h3, hc, ht⟩
  · cases h0
  injection hv with hv1 _ hv3
  injection hv1 with hv1
  injection hv1 with hv1 _ _
  subst hv1; subst hv3
  exact ⟨(Array.getElem?_eq_some_iff.1 hh).1, hb, by omega⟩
theorem own_cases {w : World} {base : Nat} {e : TypeId} {sz n : Nat} {v : Value} {xs : List Value} (h : w.ownsRow base e sz v n xs) : (v = .slice none 0 0 ∧ n = 0) ∨ ∃ g cap, v = .slice (some ⟨g, 0, none⟩) n cap := by
  rcases h.2 with h0 | ⟨g', cap', cur, hv, _⟩
  · exact .inl h0
  · exact .inr ⟨g', cap', hv⟩
omit [Inhabited α] in
/-- What a row of fixed elements holds is told by its elements alone. -/
theorem reps_flat {R : α → List Value → Prop} {enc : α → List Value} {k : Nat} (hR : ∀ p c, R p c → c = enc p) : ∀ {ps : List α} {cs : List Value}, Reps R k ps cs → (∀ p, (enc p).length = k) → cs = ps.flatMap enc
  | [], cs, h, hk => by
    have := h.1
    simpa using this
  | p :: ps, cs, h, hk => by
    have h0 := hR p _ (h.2 0 p rfl)
    rw [Nat.zero_mul, List.drop_zero] at h0
    have hl : cs.length = (ps.length + 1) * k := by simpa using h.1
    have h2 : Reps R k ps (cs.drop k) := by
      refine ⟨by rw [List.length_drop, hl, Nat.add_mul, Nat.one_mul]; omega, fun j q hq => ?_⟩
      have := h.2 (j + 1) q (by simpa using hq)
      rwa [List.drop_drop, show k + j * k = (j + 1) * k by rw [Nat.add_mul, Nat.one_mul]; omega]
    have ih := reps_flat hR h2 hk
    rw [List.flatMap_cons, ← ih, ← h0, List.take_append_drop]
omit [Inhabited α] in
theorem reps_of_flat {R : α → List Value → Prop} {enc : α → List Value} {k : Nat} (hR : ∀ p, R p (enc p)) (hk : ∀ p, (enc p).length = k) : ∀ (ps : List α), Reps R k ps (ps.flatMap enc)
  | [] => Reps.none _ _
  | p :: ps => by
    have ih := reps_of_flat hR hk ps
    refine ⟨by rw [List.flatMap_cons, List.length_append, ih.1, hk, List.length_cons, Nat.add_mul, Nat.one_mul]; omega, fun j q hq => ?_⟩
    cases j with
    | zero =>
      simp at hq
      subst hq
      rw [Nat.zero_mul, List.drop_zero, List.flatMap_cons, List.take_append_of_le_length (by rw [hk]; exact Nat.le_refl _), ← hk p, List.take_length]
      exact hR p
    | succ j =>
      have := ih.2 j q (by simpa using hq)
      rw [List.flatMap_cons, Nat.add_mul, Nat.one_mul, Nat.add_comm, ← List.drop_drop]
      rw [show List.drop k (enc p ++ List.flatMap enc ps) = List.flatMap enc ps from by rw [← hk p]; exact List.drop_left]
      exact this
theorem flatK_list (enc : α → List Value) (k : Nat) (hk : ∀ x, (enc x).length = k) (d : Array α) : (flatK enc k d).toList = d.toList.flatMap enc := by
  have hlen : ∀ l : List α, (l.flatMap enc).length = l.length * k := fun l => by
    induction l with
    | nil => simp
    | cons a t ih => rw [List.flatMap_cons, List.length_append, ih, hk, List.length_cons, Nat.add_mul, Nat.one_mul]; omega
  have key : ∀ (l : List α) (t : Nat), t < l.length * k → (l.flatMap enc)[t]? = some ((enc l[t / k]!)[t % k]!) := by
    intro l
    induction l with
    | nil => intro t h; simp at h
    | cons a l ih =>
      intro t h
      have k0 : 0 < k := by rcases Nat.eq_zero_or_pos k with h0 | h0; · subst h0; simp at h
                            · exact h0
      rw [List.flatMap_cons]
      by_cases ht : t < k
      · rw [List.getElem?_append_left (by rw [hk]; exact ht), Nat.div_eq_of_lt ht, Nat.mod_eq_of_lt ht]
        simp [hk, ht]
      · rw [List.getElem?_append_right (by rw [hk]; omega), hk, ih (t - k) (by simp at h; rw [Nat.add_mul, Nat.one_mul] at h; omega)]
        have e1 : t / k = (t - k) / k + 1 := by rw [Nat.div_eq_sub_div k0 (by omega)]
        have e2 : t % k = (t - k) % k := by rw [Nat.mod_eq_sub_mod (by omega)]
        rw [e1, e2]
        simp
  apply List.ext_getElem?
  intro t
  by_cases ht : t < d.size * k
  · rw [key d.toList t (by simpa using ht)]
    have h1 := get_flatK enc k d t ht
    rw [Array.getElem?_toList, Array.getElem?_eq_getElem (by simpa using ht), ← getElem!_pos (flatK enc k d) t (by simpa using ht), h1]
    have e3 : d.toList[t / k]! = d[t / k]! := by rw [List.getElem!_eq_getElem?_getD, Array.getElem?_toList, Array.getElem!_eq_getD]; simp [Array.getD_eq_getD_getElem?]
    rw [e3]
  · rw [List.getElem?_eq_none (by simp; omega), List.getElem?_eq_none (by rw [hlen]; simp; omega)]
end

theorem flat_len {α : Type} {enc : α → List Value} (k : Nat) (hk : ∀ x, (enc x).length = k) : ∀ l : List α, (l.flatMap enc).length = l.length * k
  | [] => by simp
  | a :: t => by rw [List.flatMap_cons, List.length_append, flat_len k hk t, hk, List.length_cons, Nat.add_mul, Nat.one_mul]; omega
/-- A kind whose elements are told by their cells alone. -/
structure Fixed {α : Type} (d : Kd α) (enc : α → List Value) : Prop where
  len : ∀ x, (enc x).length = d.sz
  out : ∀ {w base ok x cs}, d.M w base ok x cs → cs = enc x
  make : ∀ w base ok x, d.M w base ok x (enc x)
theorem fixed_R {α : Type} {d : Kd α} {enc : α → List Value} (hf : Fixed d enc) {e : Nat} {w : World} {base : Nat} {ok : Nat → Prop} {v : Value} {xs : List α} :
    d.R e w base ok v xs ↔ (∀ k, v.ownBlock = some k → ok k) ∧ w.ownsRow base e d.sz v xs.length (xs.flatMap enc) := by
  constructor
  · rintro ⟨h1, inner, ho, hr⟩
    obtain rfl := reps_flat (fun p c h => hf.out h) hr hf.len
    exact ⟨h1, ho⟩
  · rintro ⟨h1, ho⟩
    exact ⟨h1, _, ho, reps_of_flat (fun p => hf.make _ _ _ p) hf.len xs⟩
/-- Behind a call that has laid another list of the same length into a row of the call's own. -/
theorem row_put {α β : Type} [Inhabited β] {d : Kd α} {enc : α → List Value} (hf : Fixed d enc) {e : Nat} {w0 w : World} {P : Nat → Prop} {g n cap m : Nat} {xs ys : List α} {os : Array Obj} {enc' : β → Value} (F : Array β)
    (hB : Below w0.heap.size w0 w) (h : d.R e w w0.heap.size P (.slice (some ⟨g, 0, none⟩) n cap) xs) (hl : ys.length = xs.length) (hF : F.toList.map enc' = ys.flatMap enc) :
    d.R e (grow (putRow enc' (Sort.ahead w m) g 0 F) os) w0.heap.size (fun k_ => (P k_ ∨ w.heap.size ≤ k_)) (.slice (some ⟨g, 0, none⟩) n cap) ys ∧ Below w0.heap.size w0 (grow (putRow enc' (Sort.ahead w m) g 0 F) os) ∧ Kept w (grow (putRow enc' (Sort.ahead w m) g 0 F) os) (fun k_ => P k_) := by
  have h' := (fixed_R hf).1 h
  have hg : P g := h'.1 g rfl
  have hown := h'.2
  have hn : n = xs.length := by
    obtain ⟨A, c, hv⟩ := Kd.R_slice h
    injection hv
  subst hn
  have hlt := own_block_lt hown
  have hgb := grownBy_put (enc := enc') (w := w) (g := g) (n := m) (os := os) F
  have hsz : F.size = xs.length * d.sz := by
    have := congrArg List.length hF
    rw [List.length_map, Array.length_toList] at this
    rw [this, ← hl, flat_len _ hf.len]
  refine ⟨(fixed_R hf).2 ⟨fun k hk => .inl (by injection hk with hk; subst hk; exact hg), ?_⟩, hB.grown hgb hB.size (fun k hk => by injection hk with hk; subst hk; exact hlt.2.1), Kept.of_grown (S := fun k_ => P k_) hgb (Kept.refl w _) (fun k hk => .inl (by injection hk with hk; subst hk; exact hg))⟩
  have := own_put (enc := enc') (m := m) (os := os) F hown hsz
  rw [hF] at this
  rw [hl]
  exact this
theorem row_none {α : Type} {d : Kd α} {e : Nat} {w0 w : World} {P : Nat → Prop} {v : Value} {xs : List α} (hB : Below w0.heap.size w0 w) (h : d.R e w w0.heap.size P v xs) :
    d.R e w w0.heap.size (fun k_ => (P k_ ∨ w.heap.size ≤ k_)) v xs ∧ Below w0.heap.size w0 w ∧ Kept w w (fun k_ => P k_) :=
  ⟨Kd.R_mono h (fun _ hk => .inl hk), hB, Kept.refl _ _⟩
theorem fixed_int (k : IntKind) : Fixed (Kd.int k) (fun x => [.int k x]) := ⟨fun _ => rfl, fun h => h, fun _ _ _ _ => rfl⟩
end Go.Proofs.YtjajehjhonabdaaX
