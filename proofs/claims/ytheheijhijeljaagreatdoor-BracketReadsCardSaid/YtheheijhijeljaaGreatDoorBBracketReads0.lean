-- Out of the texts that the kit's print and wip/hyb laid for this law: what this proof uses (wip/shake.py).
import Derived.Below
import Derived.Deep.Draws
import Derived.Deep.AppendLies
import Derived.Maps.AppendAt
import Derived.OwnWalk
import Derived.Laws.BytesArg
import Derived.Laws.MakeOwn
import Derived.Laws.OwnMore
import Derived.Deep.OwnRows
import Derived.Tactics
import Derived.Lib.ConvBytes
import Derived.Laws.Slices
import Derived.WalkKit
import Derived.KernelRfl
import Derived.RowKit3
import Derived.Deep.LoopGhost
import Derived.Deep.QuietTactic
import Derived.BigQuiet
import Derived.WideLaws
import Derived.Deep.DeepCutAuto
import Derived.Deep.CutBlock
import Derived.Deep.RegionHeld3
import Derived.Laws.Rows
import Derived.Lib.AppendStr
import Derived.ArgAppend
import Derived.Laws.IdiomCopy
import Derived.RowKit
import Derived.OrdersHeld
import Derived.Laws.BitsLemmas
import Derived.Shelf.SlGeneric
import Derived.Shelf.SlSortCmp.NoneTotal
import Derived.Ground.SlsfProg
import Derived.Shelf.SlicesG.Cmp
import Derived.Ground.SlgcProg
import Derived.Shelf.SlicesQ.IndexFunc
import Derived.Ground.SlgfProg
import Derived.Shelf.SlicesE.Clone
import Derived.Ground.SlgnProg
import Derived.Shelf.SortM.Plain
import Derived.Shelf.SortM.SortNone
import Derived.Ground.SlgmProg
import Derived.Shelf.SlicesE.IndexFunc
import Derived.Test.YtheheijhijeljaaGreatDoorProg
import Derived.Sort.Grow
import Derived.Sort.Row
import Derived.Shelf.GgSortFunc.RowK
import Derived.Shelf.GgSortFunc.InsertionK
import Derived.RegionTactic
import Derived.Outline
import Derived.Deep.WholeRow
import Derived.Shelf.Strings.Split
import Derived.Ground.NamesProg
import Derived.Shelf.Small.Strs
import Derived.Shelf.Strings.Search2
import Derived.Shelf.Strings.Cut
import Derived.RangeFuncNested
import Derived.RangeFuncBound
import Derived.RangeFuncCalls
import Derived.RangeFuncLeaves
import Derived.Shelf.Abstract
import Derived.Shelf.RegionOpen
import Derived.OwnWalkIn
import Derived.TacticsInMore
import Derived.LoopNIn
import Derived.LoopIn
import Derived.RangeFuncBox
import Derived.WalkSpells
import Derived.Laws.StructEq
import Derived.WalkMore
import Derived.ScopeJumps
-- PRINTED WORDS (module Derived/Print/Words.lean): go-wishes' parts 1 to 38 and go-gate-2's additions: AI agents of Go's test side, Mon Nov 16 2026; no person has read them. Plain theorems and definitions: no macro, no elab, no axiom.
set_option linter.unusedVariables false
set_option linter.unusedSimpArgs false
namespace Go.Proofs.YtheheijhijeljaaGreatDoorW.PrintWords
open Go.RowKit
/-- A fact that the walk's simp doesn't look into. -/
structure Aside0 (p : Prop) : Prop where mk :: (out : p)
/-- The world is the old one, some orders having been drawn. -/
structure Drawn0 (w w' : World) : Prop where mk :: (out : ∃ n, w' = w.drewN n)
theorem Drawn0.refl (w : World) : Drawn0 w w := ⟨⟨0, rfl⟩⟩
theorem Drawn0.step {w w' : World} (h : Drawn0 w w') (n : Nat) : Drawn0 w (w'.drewN n) := by
 obtain ⟨m, rfl⟩ := h
 exact ⟨⟨m + n, World.drewN_drewN ..⟩⟩
theorem Drawn0.below {w w' : World} (h : Drawn0 w w') : Below w.heap.size w w' := by
 obtain ⟨n, rfl⟩ := h
 induction n with
 | zero => exact Below.refl _ _
 | succ n ih => rw [← World.drew_drewN]; exact ih.drew
/-! ### 1. Values and lists -/
def rd (xs : List Int) (i : Int) : Int := xs.getD i.toNat 0
def bt (s : ByteArray) (i : Int) : Int := if h : i.toNat < s.size then ((s[i.toNat]'h).toNat : Int) else 0
theorem bt_at (s : ByteArray) (i : Int) : ∀ h : i.toNat < s.size, ((s[i.toNat]'h).toNat : Int) = bt s i := fun h => by simp [bt, h]
theorem bt_range (s : ByteArray) (i : Int) : 0 ≤ bt s i ∧ bt s i ≤ 255 := by
 unfold bt
 split
 ·rename_i h
  have := (s[i.toNat]'h).toNat_lt
  omega
 ·omega
def nums (k : IntKind) (xs : List Int) : List Value := xs.map fun x => .int k x
/-! ### 2. The world -/
theorem below_alloc {w W : World} (h : Below w.heap.size w W) (o : Obj) : Below w.heap.size w (W.alloc o) := h.alloc h.size o
theorem below_drew {B : Nat} {w W : World} (h : Below B w W) : Below B w W.drew := ⟨h.os, h.tape, h.output, h.size, h.block⟩
theorem pw_below_drewN {B : Nat} {w W : World} (h : Below B w W) (n : Nat) : Below B w (W.drewN n) := ⟨h.os, h.tape, h.output, h.size, h.block⟩
theorem below_then {B : Nat} {w w1 w2 : World} (h : Below B w w1) (hB : B ≤ w1.heap.size) (k : Below w1.heap.size w1 w2) : Below B w w2 :=
 h.trans ⟨k.os, k.tape, k.output, k.size, fun i hi => k.block i (Nat.lt_of_lt_of_le hi hB)⟩
theorem grown_of_below {w w1 : World} (h : Below w.heap.size w w1) (row : Option Nat) : w.grownBy w1 row := ⟨h.os, h.tape, h.output, h.size, fun i hi _ => h.block i hi⟩
theorem pw_cell_below {w w1 : World} (h : Below w.heap.size w w1) {a : Addr} {v : Value} (hc : w.cell? a = some v) : w1.cell? a = some v := (h.cell (World.block_lt_of_cell? w a hc)).trans hc
theorem add_plain (g j : Nat) : (⟨g, 0, none⟩ : Addr).add j = ⟨g, j, none⟩ := by unfold Addr.add; split <;> simp_all
/-! ### 3. A slice of whole numbers that is read; nil, empty and other slices alike -/
def ReadsInt (w : World) (k : IntKind) (A : Option Addr) (n : Nat) (xs : List Int) : Prop :=
 xs.length = n ∧ n ≤ 9223372036854775807 ∧ (0 < n → ∃ ad, A = some ad ∧ ∀ j, j < n → w.cell? (ad.add j) = some (.int k (xs.getD j 0)))
theorem ReadsInt.at_ {w : World} {k : IntKind} {A : Option Addr} {n : Nat} {xs : List Int} (h : ReadsInt w k A n xs) (i : Int) (h0 : 0 ≤ i) (h1 : i < n) : ∃ ad, A = some ad ∧ w.cell? (ad.add i.toNat) = some (.int k (rd xs i)) := by
 obtain ⟨ad, e, hc⟩ := h.2.2 (by omega)
 exact ⟨ad, e, hc _ (by omega)⟩
/-! ### 4. A row of the call's own -/
theorem own_nil (W : World) (base : Nat) (e : TypeId) (size : Nat) : W.ownsRow base e size (.slice none 0 0) 0 [] := ⟨by simp, .inl ⟨rfl, rfl⟩⟩
theorem own_base {w : World} {base : Nat} {e : TypeId} {size n : Nat} {v : Value} {xs : List Value} (h : w.ownsRow base e size v n xs) (k : Nat) (hk : v.ownBlock = some k) : base ≤ k := by
 rcases h.2 with ⟨rfl, _⟩ | ⟨g, cap, cur, rfl, hb, _⟩
 ·simp [Value.ownBlock] at hk
 ·have : g = k := by simpa [Value.ownBlock] using hk
  omega
theorem own_lt {w : World} {base : Nat} {e : TypeId} {size n : Nat} {v : Value} {xs : List Value} (h : w.ownsRow base e size v n xs) (k : Nat) (hk : v.ownBlock = some k) : k < w.heap.size := by
 rcases h.2 with ⟨rfl, _⟩ | ⟨g, cap, cur, rfl, hb, hh, _⟩
 ·simp [Value.ownBlock] at hk
 ·have : g = k := by simpa [Value.ownBlock] using hk
  subst this
  exact (Array.getElem?_eq_some_iff.1 hh).1
theorem own_string {P : Program} {w : World} {base n : Nat} {e' src dst e : TypeId} {v : Value} {xs : List Int} (hs : P.underlying src = some (.slice e)) (he : P.underlying e = some (.int .u8)) (hd : P.underlying dst = some .string)
  (h : w.ownsRow base e' 1 v n (nums .u8 xs)) : (convert src dst v).run P w = .ok (.string (strOfNums xs)) w := by
 have hl : xs.length = n := by have := h.1; simp [nums] at this; exact this
 rcases h.2 with ⟨rfl, rfl⟩ | ⟨g, cap, cur, rfl, _⟩
 ·obtain rfl : xs = [] := List.eq_nil_of_length_eq_zero hl
  exact run_convert_bytes_nil w src e hs he 0 0 dst hd
 ·refine run_convert_bytes_arg w src e hs he g 0 n cap xs hl (fun i hi => ?_) dst hd
  have hc := h.cells (g := g) rfl i (.int .u8 (xs.getD i 0)) (by simp [nums, List.getElem?_eq_getElem (show i < xs.length by omega), List.getD_eq_getElem?_getD])
  have ha : (⟨g, 0, none⟩ : Addr).add i = ⟨g, 0 + i, none⟩ := by unfold Addr.add; split <;> simp_all
  rwa [ha] at hc
/-! ### 5. append(v, x): behind 'at_builtin'; the goal's world is 'W.alloc' of the variadic's box -/
section
variable {P : Program} {ops : Array Oper} {rest : List Oper} {o : Oper} {a : Act} {Q : Exit → Act → World → Prop}
end
/-! ### 6. make([]T, n), n an Int; a literal -/
section
variable {P : Program}
end
/-! ### 7. v[i] read and v[i] = x, v a row of the call's own: 'obtain ⟨g, cap, rfl, hgb, hgl⟩ := HO.out.form (by omega)' first -/
/-! ### 8. append(v, ys...): ys a slice that is read, nil let in; behind 'at_builtin' -/
section
variable {P : Program} {ops : Array Oper} {rest : List Oper} {o : Oper} {a : Act} {Q : Exit → Act → World → Prop}
end
/-! ### 9. []byte(s): a slice that is read (its row bears a conversion's mark: no row of one's own); cuts of a slice that is read -/
/-! ### 10. Rounds: more rounds give the same answer; what ends gives a number of rounds -/
/-- Where the first answers, the second answers the same. -/
def LeO {α : Type} (a b : Option α) : Prop := ∀ r, a = some r → b = some r
theorem LeO.refl {α : Type} (a : Option α) : LeO a a := fun _ h => h
theorem LeO.none {α : Type} (b : Option α) : LeO Option.none b := fun _ h => by cases h
theorem LeO.trans {α : Type} {a b c : Option α} (h : LeO a b) (k : LeO b c) : LeO a c := fun r hr => k r (h r hr)
theorem LeO.ite {α : Type} {c : Prop} [Decidable c] {a a' b b' : Option α} (h : LeO a a') (k : LeO b b') : LeO (if c then a else b) (if c then a' else b') := by
 split
 ·exact h
 ·exact k
theorem LeO.bind {α β : Type} {a a' : Option α} {f f' : α → Option β} (h : LeO a a') (k : ∀ x, LeO (f x) (f' x)) : LeO (a.bind f) (a'.bind f') := by
 intro r hr
 obtain ⟨x, hx, hf⟩ := Option.bind_eq_some_iff.1 hr
 exact Option.bind_eq_some_iff.2 ⟨x, h x hx, k x r hf⟩
theorem LeO.map {α β : Type} {a a' : Option α} (f : α → β) (h : LeO a a') : LeO (a.map f) (a'.map f) := by
 intro r hr
 obtain ⟨x, hx, hf⟩ := Option.map_eq_some_iff.1 hr
 exact Option.map_eq_some_iff.2 ⟨x, h x hx, hf⟩
theorem more_rounds {α : Type} {g : Nat → Option α} (h : ∀ k, LeO (g k) (g (k + 1))) (k : Nat) : ∀ j, LeO (g k) (g (k + j))
 | 0 => LeO.refl _
 | j + 1 => (more_rounds h k j).trans (h (k + j))
theorem at_rounds {α : Type} {g : Nat → Option α} (h : ∀ k, LeO (g k) (g (k + 1))) {k k' : Nat} (hk : k ≤ k') {r : α} (hr : g k = some r) : g k' = some r := by
 have := more_rounds h k (k' - k) r hr
 rwa [Nat.add_sub_cancel' hk] at this
/-! ### 11. Rows of elements of several cells (structs): read, made. R: what an element's cells say ('RepItem w': printed for each type) -/
def Reps {α : Type} (R : α → List Value → Prop) (size : Nat) (ps : List α) (cs : List Value) : Prop :=
 cs.length = ps.length * size ∧ ∀ j p, ps[j]? = some p → R p ((cs.drop (j * size)).take size)
theorem Reps.none {α : Type} (R : α → List Value → Prop) (size : Nat) : Reps R size [] [] := ⟨by simp, fun j p h => by simp at h⟩
theorem Reps.snoc {α : Type} {R : α → List Value → Prop} {size : Nat} {ps : List α} {cs c : List Value} {p : α} (h : Reps R size ps cs) (hp : R p c) (hc : c.length = size) : Reps R size (ps ++ [p]) (cs ++ c) := by
 refine ⟨by rw [List.length_append, h.1, hc, List.length_append, List.length_singleton, Nat.add_mul, Nat.one_mul], fun j q hq => ?_⟩
 rcases Nat.lt_or_ge j ps.length with hj | hj
 ·rw [List.getElem?_append_left hj] at hq
  have h1 : j * size + size ≤ cs.length := by rw [h.1, ← Nat.succ_mul]; exact Nat.mul_le_mul_right _ hj
  have h2 := h.2 j q hq
  rw [List.drop_append_of_le_length (by omega), List.take_append_of_le_length (by rw [List.length_drop]; omega)]
  exact h2
 ·have hj' : j = ps.length := by
   have := (List.getElem?_eq_some_iff.1 hq).1
   rw [List.length_append, List.length_singleton] at this
   omega
  subst hj'
  have hq' : p = q := by simpa using hq
  subst hq'
  rw [← h.1, List.drop_left, ← hc, List.take_length]
  exact hp
theorem Reps.imp_ {α : Type} {R R' : α → List Value → Prop} {size : Nat} {ps : List α} {cs : List Value} (h : Reps R size ps cs) (hR : ∀ p c, R p c → R' p c) : Reps R' size ps cs := ⟨h.1, fun j p hj => hR _ _ (h.2 j p hj)⟩
def ReadsRow {α : Type} (R : α → List Value → Prop) (size : Nat) (w : World) (A : Option Addr) (n : Nat) (ps : List α) : Prop :=
 ps.length = n ∧ n ≤ 9223372036854775807 ∧ (0 < n → ∃ ad, A = some ad ∧ ∀ j p, ps[j]? = some p → ∃ c, c.length = size ∧ R p c ∧ ∀ i u, c[i]? = some u → w.cell? (ad.add (j * size + i)) = some u)
theorem ReadsRow.get_ {α : Type} {R : α → List Value → Prop} {size : Nat} {w : World} {A : Option Addr} {n : Nat} {ps : List α} (h : ReadsRow R size w A n ps) (d : α) (i : Int) (h0 : 0 ≤ i) (h1 : i < n) :
  ∃ ad c, A = some ad ∧ c.length = size ∧ R (ps.getD i.toNat d) c ∧ ∀ j u, c[j]? = some u → w.cell? (ad.add (i.toNat * size + j)) = some u := by
 obtain ⟨ad, e, hc⟩ := h.2.2 (by omega)
 have hl : i.toNat < ps.length := by have := h.1; omega
 obtain ⟨c, hs, hr, hcell⟩ := hc i.toNat _ (List.getElem?_eq_getElem hl)
 refine ⟨ad, c, e, hs, ?_, hcell⟩
 rw [List.getD_eq_getElem?_getD, List.getElem?_eq_getElem hl]
 exact hr
theorem ReadsRow.imp_ {α : Type} {R R' : α → List Value → Prop} {size : Nat} {w w1 : World} {A : Option Addr} {n : Nat} {ps : List α} (h : ReadsRow R size w A n ps) (hb : Below w.heap.size w w1) (hR : ∀ p c, R p c → R' p c) : ReadsRow R' size w1 A n ps :=
 ⟨h.1, h.2.1, fun hn => by
  obtain ⟨ad, e, hc⟩ := h.2.2 hn
  refine ⟨ad, e, fun j p hj => ?_⟩
  obtain ⟨c, hs, hr, hcell⟩ := hc j p hj
  exact ⟨c, hs, hR _ _ hr, fun i u hu => pw_cell_below hb (hcell i u hu)⟩⟩
theorem own_reads_row {α : Type} {R : α → List Value → Prop} {w : World} {base n size : Nat} {e : TypeId} {v : Value} {ps : List α} {cs : List Value} (h : w.ownsRow base e size v n cs) (hR : Reps R size ps cs) (hn : ps.length = n) :
  ∃ A c, v = .slice A n c ∧ ReadsRow R size w A n ps := by
 rcases Nat.eq_zero_or_pos n with h0 | h0
 ·rcases h.2 with ⟨rfl, rfl⟩ | ⟨g, cap, cur, rfl, _⟩
  ·exact ⟨none, 0, rfl, hn, by omega, fun hp => absurd hp (by omega)⟩
  ·exact ⟨_, cap, rfl, hn, by omega, fun hp => absurd hp (by omega)⟩
 ·obtain ⟨g, cap, rfl, _, _⟩ := h.form h0
  have hm : n ≤ 9223372036854775807 := by
   rcases h.2 with ⟨_, h1⟩ | ⟨g', cap', cur, he, _, _, h1, h2, _⟩
   ·omega
   ·simp only [maxLen] at h2
    omega
  refine ⟨_, cap, rfl, hn, hm, fun _ => ⟨_, rfl, fun j p hj => ⟨(cs.drop (j * size)).take size, ?_, hR.2 j p hj, fun i u hu => ?_⟩⟩⟩
  ·have hjl := (List.getElem?_eq_some_iff.1 hj).1
   have h1 : j * size + size ≤ cs.length := by rw [hR.1, ← Nat.succ_mul]; exact Nat.mul_le_mul_right _ hjl
   rw [List.length_take, List.length_drop]
   omega
  ·refine h.cells (g := g) rfl _ u ?_
   rw [List.getElem?_take] at hu
   split at hu
   ·rw [List.getElem?_drop] at hu
    exact hu
   ·cases hu
/-- A field's address as_ the walk spells it. -/
theorem add_field (ad : Addr) (m j : Nat) (hj : 0 < j) : ad.add (m + j) = ⟨(ad.add m).block, (ad.add m).off + j, none⟩ := by
 unfold Addr.add
 by_cases hm : m = 0
 ·subst hm
  simp [Nat.ne_of_gt hj]
 ·simp [hm, Nat.add_assoc]
section
variable {P : Program} {ops : Array Oper} {rest : List Oper} {o : Oper} {a : Act} {Q : Exit → Act → World → Prop}
/-- append(v, x), x of several cells; behind 'at_builtin'; the goal's world is 'W.alloc' of the variadic's box. -/
theorem print_append_cells {w0 W : World} (base : Nat) (hgd : o.guard = none) (s x : Operand) (t e : TypeId) (z : Value) (size bytes : Nat)
  (ho : o.op = .call { callee := .builtin .append, args := #[s, x], argTypes := #[t, t] })
  (ht : P.underlying t = some (.slice e)) (hinfo : (P.info? e).map (fun i => (i.zero, i.size, i.bytes)) = some (some z, size, bytes)) (hz : z.cells.size = size) (hs0 : 0 < size) (hb0 : 0 < bytes)
  (v : Value) (n : Nat) (xs ys : List Value) (hs : a.eval s = v) (hx : a.eval x = .slice (some ⟨W.heap.size, 0, none⟩) 1 1) (hys : ys.length = size) (h1 : ∀ u ∈ ys, u.oneCell' = true)
  (HO : W.ownsRow base e size v n xs) (HB : Below base w0 W) (hbase : base ≤ W.heap.size) (hl : (n + 1) * bytes ≤ 140737488355328)
  (h : ∀ v1 w1, w1.ownsRow base e size v1 (n + 1) (xs ++ ys) → Below base w0 w1 → W.grownBy w1 v.ownBlock → (v1.ownBlock = v.ownBlock ∨ ∃ b, v1.ownBlock = some b ∧ W.heap.size ≤ b) → wpList P ops Q rest (a.put o.dst v1) w1) :
  wpList P ops Q (o :: rest) a (W.alloc (.cells ys.toArray e)) := by
 obtain ⟨i0, hi, hzz⟩ := Option.map_eq_some_iff.1 hinfo
 simp only [Prod.mk.injEq] at hzz
 obtain ⟨hz0, hz1, hz2⟩ := hzz
 have hlen : n + 1 ≤ 140737488355328 := Nat.le_trans (Nat.le_mul_of_pos_right _ hb0) hl
 refine wpList_append_own_at (W.alloc (.cells ys.toArray e)) hgd s x t ho base e i0 z size bytes ht hi hz0 hz1 hz2 hz hs0 v n xs hs (HO.alloc _) ⟨W.heap.size, 0, none⟩ 1 1 ys hx (by rw [hys]; simp)
  (by simpa using World.news_of_block (cs := ys.toArray) (t := e) (fr := (0, 0)) (heap_alloc_new W (.cells ys.toArray e))) h1 (by simp only [maxLen]; omega) hl (by simp; omega) ?_
 intro v1 w1 hown hg _ hat
 refine h v1 w1 hown ((HB.alloc hbase _).grown hg (by simp; omega) (own_base HO)) (World.grownBy.trans (World.grownBy_alloc W _ _) hg) ?_
 rcases hat with hat | hat
 ·exact .inl hat
 ·exact .inr ⟨_, hat, by simp⟩
end
/-! ### 12. A block of one's own that is a state: its cells, what a store leaves -/
theorem blk_set {w : World} {g : Nat} {t : TypeId} {cs : Array Value} (h : w.heap[g]? = some (.cells cs t (0, 0))) (i : Nat) (u : Value) : (w.setCell ⟨g, i, none⟩ u).heap[g]? = some (.cells (cs.setIfInBounds i u) t (0, 0)) := by
 simp [World.setCell, Array.getElem?_modify, h]
theorem blk_lt {w : World} {g : Nat} {o : Obj} (h : w.heap[g]? = some o) : g < w.heap.size := (Array.getElem?_eq_some_iff.1 h).1
theorem blk_cell {w : World} {g : Nat} {t : TypeId} {cs : Array Value} (h : w.heap[g]? = some (.cells cs t (0, 0))) (i : Nat) : w.cell? ⟨g, i, none⟩ = cs[i]? := cell_of_row w g i cs t (0, 0) h
theorem blk_frozen {w : World} {g : Nat} {t : TypeId} {cs : Array Value} (h : w.heap[g]? = some (.cells cs t (0, 0))) (i : Nat) : w.frozen? ⟨g, i, none⟩ = false := by simp [World.frozen?, h]
theorem blk_grown {w w1 : World} {g : Nat} {o : Obj} {row : Option Nat} (h : w.heap[g]? = some o) (hg : w.grownBy w1 row) (hne : some g ≠ row) : w1.heap[g]? = some o := (hg.block g (blk_lt h) hne).trans h
/-! ### 13. Two states at once: what a call on the state at block g (its row before: 'row') has turned -/
def KeepBut (w w' : World) (g : Nat) (row : Option Nat) : Prop := w.heap.size ≤ w'.heap.size ∧ ∀ i, i < w.heap.size → i ≠ g → some i ≠ row → w'.heap[i]? = w.heap[i]?
theorem KeepBut.trans {w w1 w2 : World} {g : Nat} {row row1 : Option Nat} (h : KeepBut w w1 g row) (k : KeepBut w1 w2 g row1) (hr : row1 = row ∨ ∃ b, row1 = some b ∧ w.heap.size ≤ b) : KeepBut w w2 g row :=
 ⟨Nat.le_trans h.1 k.1, fun i hi hg hn => by
  refine (k.2 i (Nat.lt_of_lt_of_le hi h.1) hg ?_).trans (h.2 i hi hg hn)
  rcases hr with rfl | ⟨b, rfl, hb⟩
  ·exact hn
  ·intro e
   injection e with e
   omega⟩
/-! ### 10b. From some number of rounds on -/
def Ev {α : Type} (g : Nat → Option α) (r : α) : Prop := ∃ K, ∀ k, K ≤ k → g k = some r
theorem Ev.of {α : Type} {g : Nat → Option α} {r : α} (hg : ∀ k, LeO (g k) (g (k + 1))) {k : Nat} (h : g k = some r) : Ev g r := ⟨k, fun _ hk => at_rounds hg hk h⟩
theorem Ev.now {α : Type} (r : α) : Ev (fun _ => some r) r := ⟨0, fun _ _ => rfl⟩
theorem Ev.rounds {α : Type} {g : Nat → Option α} {r : α} (h : Ev g r) : ∃ k, g k = some r := by
 obtain ⟨K, h⟩ := h
 exact ⟨K, h K (Nat.le_refl _)⟩
theorem Ev.bind {α β : Type} {g : Nat → Option α} {f : Nat → α → Option β} {a : α} {r : β} (h : Ev g a) (k : Ev (fun n => f n a) r) : Ev (fun n => (g n).bind (f n)) r := by
 obtain ⟨K, h⟩ := h
 obtain ⟨K', k⟩ := k
 refine ⟨max K K', fun n hn => ?_⟩
 have h1 := h n (by omega)
 have h2 := k n (by omega)
 simp only [h1, Option.bind_some]
 exact h2
/-- One round of a loop. -/
theorem Ev.step {α : Type} {g f : Nat → Option α} {r : α} (h : ∀ k, g (k + 1) = f k) (k : Ev f r) : Ev g r := by
 obtain ⟨K, k⟩ := k
 refine ⟨K + 1, fun n hn => ?_⟩
 obtain ⟨m, rfl⟩ : ∃ m, n = m + 1 := ⟨n - 1, by omega⟩
 rw [h]
 exact k m (by omega)
theorem Ev.congr {α : Type} {g f : Nat → Option α} {r : α} (h : ∀ k, g k = f k) (k : Ev f r) : Ev g r := by
 obtain ⟨K, k⟩ := k
 exact ⟨K, fun n hn => (h n).trans (k n hn)⟩
/-! ### 14. append as_ one step of a region that draws its order: for 'go_region_law' (and a region walked by hand) -/
section
variable {P : Program} {ops : Array Oper} {o : Oper} {a : Act} {Q : Exit → Act → World → Prop} {K : Act → World → Prop}
theorem step_append_cells {w0 W : World} (base : Nat) (hw : Region.wanted o (yielded ops a.tmps) = true) (s x : Operand) (t e : TypeId) (z : Value) (size bytes : Nat)
  (ho : o.op = .call { callee := .builtin .append, args := #[s, x], argTypes := #[t, t] })
  (ht : P.underlying t = some (.slice e)) (hinfo : (P.info? e).map (fun i => (i.zero, i.size, i.bytes)) = some (some z, size, bytes)) (hz : z.cells.size = size) (hs0 : 0 < size) (hb0 : 0 < bytes)
  (v : Value) (n : Nat) (xs ys : List Value) (hs : a.eval s = v) (hx : a.eval x = .slice (some ⟨W.heap.size, 0, none⟩) 1 1) (hys : ys.length = size) (h1 : ∀ u ∈ ys, u.oneCell' = true)
  (HO : W.ownsRow base e size v n xs) (HB : Below base w0 W) (hbase : base ≤ W.heap.size) (hl : (n + 1) * bytes ≤ 140737488355328)
  (h : ∀ v1 w1, w1.ownsRow base e size v1 (n + 1) (xs ++ ys) → Below base w0 w1 → W.grownBy w1 v.ownBlock → (v1.ownBlock = v.ownBlock ∨ ∃ b, v1.ownBlock = some b ∧ W.heap.size ≤ b) → K (a.put o.dst v1) w1) :
  if Region.wanted o (yielded ops a.tmps) = true then Oper.wp P o a (W.alloc (.cells ys.toArray e)) K Q else K (a.put o.dst undef) (W.alloc (.cells ys.toArray e)) := by
 obtain ⟨i0, hi, hzz⟩ := Option.map_eq_some_iff.1 hinfo
 simp only [Prod.mk.injEq] at hzz
 obtain ⟨hz0, hz1, hz2⟩ := hzz
 have hlen : n + 1 ≤ 140737488355328 := Nat.le_trans (Nat.le_mul_of_pos_right _ hb0) hl
 rw [if_pos hw]
 obtain ⟨v1, w1, hr, hown, hg, _, hat⟩ := run_append_own_at (P := P) (W.alloc (.cells ys.toArray e)) base t o.type e i0 z size bytes ht hi hz0 hz1 hz2 hz hs0 v n xs (HO.alloc _) ⟨W.heap.size, 0, none⟩ 1 1 ys (by rw [hys]; simp)
  (by simpa using World.news_of_block (cs := ys.toArray) (t := e) (fr := (0, 0)) (heap_alloc_new W (.cells ys.toArray e))) h1 (by simp only [maxLen]; omega) hl (by simp; omega)
 unfold Oper.wp execOp
 simp only [ho, resolve, invoke, builtin, Sem.run_bind, Sem.run_pure, Result.andThen_ok, List.map_toArray, List.map_cons, List.map_nil, hs, hx, hr]
 refine h v1 w1 hown ((HB.alloc hbase _).grown hg (by simp; omega) (own_base HO)) (World.grownBy.trans (World.grownBy_alloc W _ _) hg) ?_
 rcases hat with hat | hat
 ·exact .inl hat
 ·exact .inr ⟨_, hat, by simp⟩
end
/-! ### 15. A row's base may be lowered -/
theorem own_weaken {w : World} {base base' : Nat} {e : TypeId} {size n : Nat} {v : Value} {xs : List Value} (h : w.ownsRow base e size v n xs) (hb : base' ≤ base) : w.ownsRow base' e size v n xs := by
 obtain ⟨h1, h2⟩ := h
 refine ⟨h1, ?_⟩
 rcases h2 with h2 | ⟨g, cap, cur, rfl, hg, r⟩
 ·exact .inl h2
 ·exact .inr ⟨g, cap, cur, rfl, Nat.le_trans hb hg, r⟩
/-! ### 16. Parts 3 to 9 for ANY element of one cell: 'enc' (Value.int k, Value.string, Value.bool), a default 'd' -/
section
variable {α : Type} {enc : α → Value} {d : α}
def encs (enc : α → Value) (xs : List α) : List Value := xs.map enc
def rdOf (d : α) (xs : List α) (i : Int) : α := xs.getD i.toNat d
theorem encs_length (xs : List α) : (encs enc xs).length = xs.length := by simp [encs]
def ReadsOf (enc : α → Value) (d : α) (w : World) (A : Option Addr) (n : Nat) (xs : List α) : Prop :=
 xs.length = n ∧ n ≤ 9223372036854775807 ∧ (0 < n → ∃ ad, A = some ad ∧ ∀ j, j < n → w.cell? (ad.add j) = some (enc (xs.getD j d)))
theorem ReadsOf.at_ {w : World} {A : Option Addr} {n : Nat} {xs : List α} (h : ReadsOf enc d w A n xs) (i : Int) (h0 : 0 ≤ i) (h1 : i < n) : ∃ ad, A = some ad ∧ w.cell? (ad.add i.toNat) = some (enc (rdOf d xs i)) := by
 obtain ⟨ad, e, hc⟩ := h.2.2 (by omega)
 exact ⟨ad, e, hc _ (by omega)⟩
end
section
variable {α : Type} {P : Program} {ops : Array Oper} {rest : List Oper} {o : Oper} {a : Act} {Q : Exit → Act → World → Prop}
end
/-! ### 17. Rows of one element type held at once: no two share a block -/
/-! ### 18. A block behind a new one; behind a draw -/
theorem blk_drew {w : World} {g : Nat} {o : Obj} (h : w.heap[g]? = some o) : w.drew.heap[g]? = some o := h
theorem blk_new (w : World) (o : Obj) : (w.alloc o).heap[w.heap.size]? = some o := heap_alloc_new w o
/-! ### 19. Results that lie in memory beside others -/
section
variable {P : Program}
end
/-! ### 20. Rows of elements of any kind: R is what an element's cells say -/
theorem own_le {w : World} {base n m c size : Nat} {e : TypeId} {A : Option Addr} {xs : List Value} (h : w.ownsRow base e size (.slice A m c) n xs) : m ≤ c := by
 rcases h.2 with ⟨he, _⟩ | ⟨g, cap, cur, he, _, _, hnc, _⟩
 ·injection he with _ h2 h3
  omega
 ·injection he with _ h2 h3
  omega
def OwnRow {α : Type} (R : α → List Value → Prop) (e : TypeId) (size : Nat) (w : World) (base : Nat) (v : Value) (ps : List α) : Prop :=
 ∃ inner, w.ownsRow base e size v ps.length inner ∧ Reps R size ps inner
section
variable {α : Type} {R R' : α → List Value → Prop} {e : TypeId} {size : Nat} {w w1 : World} {base : Nat} {v : Value} {ps : List α}
theorem OwnRow.none_ (R : α → List Value → Prop) (e : TypeId) (size : Nat) (w : World) (base : Nat) : OwnRow R e size w base (.slice none 0 0) [] := ⟨[], own_nil _ _ _ _, Reps.none _ _⟩
theorem OwnRow.imp_ (h : OwnRow R e size w base v ps) (hR : ∀ p c, R p c → R' p c) : OwnRow R' e size w base v ps := by
 obtain ⟨inner, ho, hr⟩ := h
 exact ⟨inner, ho, hr.imp_ hR⟩
theorem OwnRow.reads (h : OwnRow R e size w base v ps) : ∃ A c, v = .slice A ps.length c ∧ ps.length ≤ c ∧ ReadsRow R size w A ps.length ps := by
 obtain ⟨inner, ho, hr⟩ := h
 obtain ⟨A, c, rfl, hrow⟩ := own_reads_row ho hr rfl
 exact ⟨A, c, rfl, own_le ho, hrow⟩
end
section
variable {P : Program} {ops : Array Oper} {rest : List Oper} {o : Oper} {a : Act} {Q : Exit → Act → World → Prop} {α : Type} {R : α → List Value → Prop}
end
section
variable {P : Program} {ops : Array Oper} {o : Oper} {a : Act} {Q : Exit → Act → World → Prop} {K : Act → World → Prop} {α : Type} {R : α → List Value → Prop}
end
/-- What is read as_ a row has its cells one behind the other. -/
theorem ReadsRow.inner_ {α : Type} {R : α → List Value → Prop} {size : Nat} {w : World} {ad : Addr} {n : Nat} {ps : List α} (h : ReadsRow R size w (some ad) n ps) :
  ∃ inner, Reps R size ps inner ∧ ∀ j u, inner[j]? = some u → w.cell? (ad.add j) = some u := by
 have key : ∀ m, m ≤ ps.length → ∃ inner, Reps R size (ps.take m) inner ∧ ∀ j u, inner[j]? = some u → w.cell? (ad.add j) = some u := by
  intro m
  induction m with
  | zero => exact fun _ => ⟨[], Reps.none _ _, fun j u hu => by simp at hu⟩
  | succ m ih =>
   intro hm
   obtain ⟨inner, hr, hc⟩ := ih (by omega)
   obtain ⟨ad', he, hcell⟩ := h.2.2 (by have := h.1; omega)
   injection he with he
   subst he
   obtain ⟨c, hcl, hp, hcc⟩ := hcell m _ (List.getElem?_eq_getElem (show m < ps.length by omega))
   refine ⟨inner ++ c, ?_, fun j u hu => ?_⟩
   ·rw [List.take_succ_eq_append_getElem (show m < ps.length by omega)]
    exact hr.snoc hp hcl
   ·have hil : inner.length = m * size := by rw [hr.1, List.length_take, Nat.min_eq_left (by omega)]
    rcases Nat.lt_or_ge j inner.length with hj | hj
    ·rw [List.getElem?_append_left hj] at hu
     exact hc j u hu
    ·rw [List.getElem?_append_right hj] at hu
     have := hcc (j - inner.length) u hu
     rwa [hil, Nat.add_sub_cancel' (by omega)] at this
 obtain ⟨inner, hr, hc⟩ := key ps.length (Nat.le_refl _)
 rw [List.take_length] at hr
 exact ⟨inner, hr, hc⟩
/-! ### 21. Cuts of a slice that came in, lengths spelled as_ the lists' -/
section
variable {α : Type} {P : Program}
end
/-! ### 22. append([]byte, s...), s a string; behind 'at_builtin'. (No word on where the new row lies: two rows of bytes at once don't go by it.) -/
section
variable {P : Program} {ops : Array Oper} {rest : List Oper} {o : Oper} {a : Act} {Q : Exit → Act → World → Prop}
end
/-! ### 23. KINDS: what a value's cells say, read (K) and made (M), kind by kind; every mover proved once -/
/-- ok: which blocks the rows inside may be ('not the row that is being written'). -/
structure Kd (α : Type) where
 sz : Nat
 E : List Nat
 K : World → α → List Value → Prop
 M : World → Nat → (Nat → Prop) → α → List Value → Prop
 K_len : ∀ {w x cs}, K w x cs → cs.length = sz
 K_one : ∀ {w x cs}, K w x cs → ∀ u ∈ cs, u.oneCell' = true
 K_below : ∀ {w w1 : World} {x cs}, Below w.heap.size w w1 → K w x cs → K w1 x cs
 K_of_M : ∀ {w base ok x cs}, M w base ok x cs → K w x cs
 M_mono : ∀ {w base ok ok' x cs}, (∀ k, ok k → ok' k) → M w base ok x cs → M w base ok' x cs
 M_bound : ∀ {w : World} {base ok x cs}, M w base ok x cs → M w base (fun k => ok k ∧ base ≤ k ∧ k < w.heap.size ∧ ∃ q, q ∈ E ∧ ∃ cells, w.heap[k]? = some (.cells cells q (0, 0))) x cs
 M_move : ∀ {w w1 : World} {base ok x cs}, (∀ k, ok k → w1.heap[k]? = w.heap[k]?) → M w base ok x cs → M w1 base ok x cs
 M_lower : ∀ {w base base' ok x cs}, base' ≤ base → M w base ok x cs → M w base' ok x cs
theorem own_move {w w1 : World} {base : Nat} {e : TypeId} {size n : Nat} {v : Value} {xs : List Value} (h : w.ownsRow base e size v n xs) (hm : ∀ k, v.ownBlock = some k → w1.heap[k]? = w.heap[k]?) : w1.ownsRow base e size v n xs := by
 obtain ⟨h1, h2⟩ := h
 refine ⟨h1, ?_⟩
 rcases h2 with h2 | ⟨g, cap, cur, rfl, hg, hh, r⟩
 ·exact .inl h2
 ·exact .inr ⟨g, cap, cur, rfl, hg, (hm g (by simp [Value.ownBlock])).trans hh, r⟩
theorem own_typed {w : World} {base : Nat} {e : TypeId} {size n : Nat} {v : Value} {xs : List Value} (h : w.ownsRow base e size v n xs) (k : Nat) (hk : v.ownBlock = some k) : ∃ cells, w.heap[k]? = some (.cells cells e (0, 0)) := by
 rcases h.2 with ⟨rfl, _⟩ | ⟨g, cap, cur, rfl, hg, hh, r⟩
 ·simp [Value.ownBlock] at hk
 ·have : g = k := by simpa [Value.ownBlock] using hk
  subst this
  exact ⟨cur, hh⟩
namespace Kd
/-- A row of elements that is read. -/
def C {α : Type} (d : Kd α) (w : World) (A : Option Addr) (n : Nat) (xs : List α) : Prop := ReadsRow (d.K w) d.sz w A n xs
/-- A row of elements (type e) of the call's own; the elements' rows are not this one. -/
def R {α : Type} (d : Kd α) (e : Nat) (w : World) (base : Nat) (ok : Nat → Prop) (v : Value) (xs : List α) : Prop :=
 (∀ k, v.ownBlock = some k → ok k) ∧ OwnRow (d.M w base (fun k => ok k ∧ some k ≠ v.ownBlock)) e d.sz w base v xs
section
variable {α : Type} {d : Kd α} {e : Nat} {w w1 : World} {base : Nat} {ok ok' : Nat → Prop} {v : Value} {xs : List α}
theorem C_below {A : Option Addr} {n : Nat} (h : d.C w A n xs) (hb : Below w.heap.size w w1) : d.C w1 A n xs := ReadsRow.imp_ h hb (fun _ _ hp => d.K_below hb hp)
theorem R_nil (d : Kd α) (e : Nat) (w : World) (base : Nat) (ok : Nat → Prop) : d.R e w base ok (.slice none 0 0) [] := ⟨fun k hk => by simp [Value.ownBlock] at hk, OwnRow.none_ _ _ _ _ _⟩
theorem R_mono (h : d.R e w base ok v xs) (hok : ∀ k, ok k → ok' k) : d.R e w base ok' v xs := ⟨fun k hk => hok k (h.1 k hk), h.2.imp_ (fun _ _ hp => d.M_mono (fun k hk => ⟨hok k hk.1, hk.2⟩) hp)⟩
theorem R_bound (h : d.R e w base ok v xs) : d.R e w base (fun k => ok k ∧ base ≤ k ∧ k < w.heap.size ∧ ∃ q, q ∈ e :: d.E ∧ ∃ cells, w.heap[k]? = some (.cells cells q (0, 0))) v xs := by
 obtain ⟨h0, inner, ho, hr⟩ := h
 refine ⟨fun k hk => ?_, inner, ho, hr.imp_ (fun _ _ hp => d.M_mono (fun k hk => ?_) (d.M_bound hp))⟩
 ·obtain ⟨cells, hc⟩ := own_typed ho k hk
  exact ⟨h0 k hk, own_base ho k hk, own_lt ho k hk, e, List.mem_cons_self, cells, hc⟩
 ·obtain ⟨⟨h1, h2⟩, h3, h4, q, hq, hc⟩ := hk
  exact ⟨⟨h1, h3, h4, q, List.mem_cons_of_mem _ hq, hc⟩, h2⟩
theorem R_move (h : d.R e w base ok v xs) (hm : ∀ k, ok k → w1.heap[k]? = w.heap[k]?) : d.R e w1 base ok v xs := by
 obtain ⟨h0, inner, ho, hr⟩ := h
 exact ⟨h0, inner, own_move ho (fun k hk => hm k (h0 k hk)), hr.imp_ (fun _ _ hp => d.M_move (fun k hk => hm k hk.1) hp)⟩
theorem R_lower {base' : Nat} (h : d.R e w base ok v xs) (hb : base' ≤ base) : d.R e w base' ok v xs := by
 obtain ⟨h0, inner, ho, hr⟩ := h
 exact ⟨h0, inner, own_weaken ho hb, hr.imp_ (fun _ _ hp => d.M_lower hb hp)⟩
/-- Any mover: what is ok, and a block of w's, stays. -/
theorem R_step (h : d.R e w base ok v xs) (hm : ∀ k, ok k → k < w.heap.size → w1.heap[k]? = w.heap[k]?) : d.R e w1 base ok v xs :=
 R_mono (R_move (R_bound h) (fun k hk => hm k hk.1 hk.2.2.1)) (fun _ hk => hk.1)
theorem M_step {x : α} {cs : List Value} (h : d.M w base ok x cs) (hm : ∀ k, ok k → k < w.heap.size → w1.heap[k]? = w.heap[k]?) : d.M w1 base ok x cs :=
 d.M_mono (fun _ hk => hk.1) (d.M_move (fun k hk => hm k hk.1 hk.2.2.1) (d.M_bound h))
theorem R_below (h : d.R e w base ok v xs) (hb : Below w.heap.size w w1) : d.R e w1 base ok v xs := R_step h (fun k _ hk => hb.block k hk)
theorem M_below {x : α} {cs : List Value} (h : d.M w base ok x cs) (hb : Below w.heap.size w w1) : d.M w1 base ok x cs := M_step h (fun k _ hk => hb.block k hk)
/-- A store into another block. -/
theorem R_far (h : d.R e w base ok v xs) {p : Addr} (hok : ∀ k, ok k → k ≠ p.block) (u : Value) : d.R e (w.setCell p u) base ok v xs := R_step h (fun k ho _ => Below.heap_setCell w p u k (hok k ho))
theorem R_reads (h : d.R e w base ok v xs) : ∃ A c, v = .slice A xs.length c ∧ xs.length ≤ c ∧ d.C w A xs.length xs := by
 obtain ⟨A, c, he, hl, hr⟩ := OwnRow.reads h.2
 exact ⟨A, c, he, hl, hr.imp_ (Below.refl _ _) (fun _ _ hp => d.K_of_M hp)⟩
theorem R_slice (h : d.R e w base ok v xs) : ∃ A c, v = .slice A xs.length c := by
 obtain ⟨A, c, he, _⟩ := R_reads h
 exact ⟨A, c, he⟩
theorem R_own (h : d.R e w base ok v xs) : ∃ inner, w.ownsRow base e d.sz v xs.length inner := by
 obtain ⟨_, inner, ho, _⟩ := h
 exact ⟨inner, ho⟩
end
/-! #### the kinds -/
def scalar {α : Type} (enc : α → Value) (h1 : ∀ x, (enc x).oneCell' = true) : Kd α where
 sz := 1
 E := []
 K := fun _ x cs => cs = [enc x]
 M := fun _ _ _ x cs => cs = [enc x]
 K_len := fun h => by rw [h]; rfl
 K_one := fun h u hu => by
  rw [h] at hu
  rw [List.mem_singleton.1 hu]
  exact h1 _
 K_below := fun _ h => h
 K_of_M := fun h => h
 M_mono := fun _ h => h
 M_bound := fun h => h
 M_move := fun _ h => h
 M_lower := fun _ h => h
def int (k : IntKind) : Kd Int := scalar (Value.int k) (fun _ => rfl)
def string : Kd ByteArray := scalar Value.string (fun _ => rfl)
def slice {α : Type} (e : Nat) (d : Kd α) : Kd (List α) where
 sz := 1
 E := e :: d.E
 K := fun w xs cs => ∃ A c, cs = [.slice A xs.length c] ∧ xs.length ≤ c ∧ d.C w A xs.length xs
 M := fun w base ok xs cs => ∃ v, cs = [v] ∧ d.R e w base ok v xs
 K_len := by
  rintro w x cs ⟨A, c, rfl, _⟩
  rfl
 K_one := by
  rintro w x cs ⟨A, c, rfl, _⟩ u hu
  rw [List.mem_singleton.1 hu]
  rfl
 K_below := by
  rintro w w1 x cs hb ⟨A, c, rfl, hl, hr⟩
  exact ⟨A, c, rfl, hl, C_below hr hb⟩
 K_of_M := by
  rintro w base ok x cs ⟨v, rfl, h⟩
  obtain ⟨A, c, rfl, hl, hr⟩ := R_reads h
  exact ⟨A, c, rfl, hl, hr⟩
 M_mono := by
  rintro w base ok ok' x cs hok ⟨v, rfl, h⟩
  exact ⟨v, rfl, R_mono h hok⟩
 M_bound := by
  rintro w base ok x cs ⟨v, rfl, h⟩
  exact ⟨v, rfl, R_bound h⟩
 M_move := by
  rintro w w1 base ok x cs hm ⟨v, rfl, h⟩
  exact ⟨v, rfl, R_move h hm⟩
 M_lower := by
  rintro w base base' ok x cs hb ⟨v, rfl, h⟩
  exact ⟨v, rfl, R_lower h hb⟩
/-- Two in line. -/
def pair {α β : Type} (a : Kd α) (b : Kd β) : Kd (α × β) where
 sz := a.sz + b.sz
 E := a.E ++ b.E
 K := fun w x cs => ∃ c0 c1, cs = c0 ++ c1 ∧ a.K w x.1 c0 ∧ b.K w x.2 c1
 M := fun w base ok x cs => ∃ c0 c1, cs = c0 ++ c1 ∧ a.M w base ok x.1 c0 ∧ b.M w base ok x.2 c1
 K_len := by
  rintro w x cs ⟨c0, c1, rfl, h0, h1⟩
  rw [List.length_append, a.K_len h0, b.K_len h1]
 K_one := by
  rintro w x cs ⟨c0, c1, rfl, h0, h1⟩ u hu
  rcases List.mem_append.1 hu with hu | hu
  ·exact a.K_one h0 u hu
  ·exact b.K_one h1 u hu
 K_below := by
  rintro w w1 x cs hb ⟨c0, c1, rfl, h0, h1⟩
  exact ⟨c0, c1, rfl, a.K_below hb h0, b.K_below hb h1⟩
 K_of_M := by
  rintro w base ok x cs ⟨c0, c1, rfl, h0, h1⟩
  exact ⟨c0, c1, rfl, a.K_of_M h0, b.K_of_M h1⟩
 M_mono := by
  rintro w base ok ok' x cs hok ⟨c0, c1, rfl, h0, h1⟩
  exact ⟨c0, c1, rfl, a.M_mono hok h0, b.M_mono hok h1⟩
 M_bound := by
  rintro w base ok x cs ⟨c0, c1, rfl, h0, h1⟩
  refine ⟨c0, c1, rfl, a.M_mono ?_ (a.M_bound h0), b.M_mono ?_ (b.M_bound h1)⟩
  ·rintro k ⟨h2, h3, h4, q, hq, hc⟩
   exact ⟨h2, h3, h4, q, List.mem_append_left _ hq, hc⟩
  ·rintro k ⟨h2, h3, h4, q, hq, hc⟩
   exact ⟨h2, h3, h4, q, List.mem_append_right _ hq, hc⟩
 M_move := by
  rintro w w1 base ok x cs hm ⟨c0, c1, rfl, h0, h1⟩
  exact ⟨c0, c1, rfl, a.M_move hm h0, b.M_move hm h1⟩
 M_lower := by
  rintro w base base' ok x cs hb ⟨c0, c1, rfl, h0, h1⟩
  exact ⟨c0, c1, rfl, a.M_lower hb h0, b.M_lower hb h1⟩
/-- A Lean structure by its fields. -/
def iso {α β : Type} (d : Kd α) (f : β → α) : Kd β where
 sz := d.sz
 E := d.E
 K := fun w x cs => d.K w (f x) cs
 M := fun w base ok x cs => d.M w base ok (f x) cs
 K_len := d.K_len
 K_one := d.K_one
 K_below := d.K_below
 K_of_M := d.K_of_M
 M_mono := d.M_mono
 M_bound := d.M_bound
 M_move := d.M_move
 M_lower := d.M_lower
/-- Nothing is of this kind: where the nesting's depth is used up. -/
def bot {α : Type} (sz : Nat) (E : List Nat) : Kd α where
 sz := sz
 E := E
 K := fun _ _ _ => False
 M := fun _ _ _ _ _ => False
 K_len := fun h => h.elim
 K_one := fun h => h.elim
 K_below := fun _ h => h
 K_of_M := fun h => h
 M_mono := fun _ h => h
 M_bound := fun h => h
 M_move := fun _ h => h
 M_lower := fun _ h => h
/-- A type nested in itself: nested at most n deep .. -/
def upto {α : Type} (F : Kd α → Kd α) (sz : Nat) (E : List Nat) : Nat → Kd α
 | 0 => bot sz E
 | n + 1 => F (upto F sz E n)
/-! #### an element of a row that is read; an element appended -/
theorem C_get {α : Type} {d : Kd α} {w : World} {A : Option Addr} {n : Nat} {xs : List α} (h : d.C w A n xs) (z : α) (i : Int) (h0 : 0 ≤ i) (h1 : i < n) :
  ∃ ad c, A = some ad ∧ c.length = d.sz ∧ d.K w (xs.getD i.toNat z) c ∧ ∀ j u, c[j]? = some u → w.cell? (ad.add (i.toNat * d.sz + j)) = some u := ReadsRow.get_ h z i h0 h1
/-- What an append leaves: the old elements' rows and the new one's are not the new row's block. -/
theorem R_appended {α : Type} {d : Kd α} {e base : Nat} {ok okp : Nat → Prop} {W w1 : World} {v v1 : Value} {xs : List α} {p : α} {inner cs : List Value} (h0 : ∀ k, v.ownBlock = some k → ok k) (hr : Reps (d.M W base (fun k => ok k ∧ some k ≠ v.ownBlock)) d.sz xs inner) (hp : d.M W base okp p cs) (hokp : ∀ k, okp k → ok k ∧ some k ≠ v.ownBlock) (hfresh : ∀ k, W.heap.size ≤ k → ok k)
  (hown : w1.ownsRow base e d.sz v1 (xs.length + 1) (inner ++ cs)) (hg : W.grownBy w1 v.ownBlock) (hat : v1.ownBlock = v.ownBlock ∨ ∃ b, v1.ownBlock = some b ∧ W.heap.size ≤ b) : d.R e w1 base ok v1 (xs ++ [p]) := by
 have hne : ∀ k, some k ≠ v.ownBlock → k < W.heap.size → some k ≠ v1.ownBlock := by
  intro k hk hlt
  rcases hat with hat | ⟨b, hb, hle⟩
  ·rw [hat]; exact hk
  ·rw [hb]
   intro he
   injection he with he
   omega
 have step : ∀ {q : α} {c : List Value} {o : Nat → Prop}, d.M W base o q c → (∀ k, o k → ok k ∧ some k ≠ v.ownBlock) → d.M w1 base (fun k => ok k ∧ some k ≠ v1.ownBlock) q c := by
  intro q c o hq ho
  have h1 := d.M_move (w1 := w1) (fun k hk => hg.block k hk.2.2.1 (ho k hk.1).2) (d.M_bound hq)
  exact d.M_mono (fun k hk => ⟨(ho k hk.1).1, hne k (ho k hk.1).2 hk.2.2.1⟩) h1
 refine ⟨fun k hk => ?_, inner ++ cs, by rw [List.length_append, List.length_singleton]; exact hown, ?_⟩
 ·rcases hat with hat | ⟨b, hb, hle⟩
  ·exact h0 k (hat ▸ hk)
  ·rw [hb] at hk
   injection hk with hk
   exact hfresh k (by omega)
 ·exact (hr.imp_ (fun _ _ hq => step hq (fun _ hk => hk))).snoc (step hp hokp) (d.K_len (d.K_of_M hp))
section
variable {P : Program} {ops : Array Oper} {rest : List Oper} {o : Oper} {a : Act} {Q : Exit → Act → World → Prop} {α : Type}
/-- append(v, x), behind 'at_builtin'; the goal's world is 'W.alloc' of the variadic's box; x's cells are cs, made (its rows satisfy okp). hfresh: a block that is new at W is ok. -/
theorem R_append (d : Kd α) {w0 W : World} (base : Nat) (hgd : o.guard = none) (s x : Operand) (t e : TypeId) (z : Value) (bytes : Nat)
  (ho : o.op = .call { callee := .builtin .append, args := #[s, x], argTypes := #[t, t] })
  (ht : P.underlying t = some (.slice e)) (hinfo : (P.info? e).map (fun i => (i.zero, i.size, i.bytes)) = some (some z, d.sz, bytes)) (hz : z.cells.size = d.sz) (hs0 : 0 < d.sz) (hb0 : 0 < bytes)
  (v : Value) (xs : List α) (p : α) (cs : List Value) (ok okp : Nat → Prop) (hs : a.eval s = v) (hx : a.eval x = .slice (some ⟨W.heap.size, 0, none⟩) 1 1) (hp : d.M W base okp p cs) (hokp : ∀ k, okp k → ok k ∧ some k ≠ v.ownBlock) (hfresh : ∀ k, W.heap.size ≤ k → ok k)
  (HO : d.R e W base ok v xs) (HB : Below base w0 W) (hbase : base ≤ W.heap.size) (hl : (xs.length + 1) * bytes ≤ 140737488355328)
  (h : ∀ v1 w1, d.R e w1 base ok v1 (xs ++ [p]) → Below base w0 w1 → W.grownBy w1 v.ownBlock → (v1.ownBlock = v.ownBlock ∨ ∃ b, v1.ownBlock = some b ∧ W.heap.size ≤ b) → wpList P ops Q rest (a.put o.dst v1) w1) :
  wpList P ops Q (o :: rest) a (W.alloc (.cells cs.toArray e)) := by
 obtain ⟨h0, inner, hown, hr⟩ := HO
 refine print_append_cells base hgd s x t e z d.sz bytes ho ht hinfo hz hs0 hb0 v xs.length inner cs hs hx (d.K_len (d.K_of_M hp)) (d.K_one (d.K_of_M hp)) hown HB hbase hl ?_
 intro v1 w1 hown1 hb1 hg1 hat1
 exact h v1 w1 (R_appended h0 hr hp hokp hfresh hown1 hg1 hat1) hb1 hg1 hat1
end
section
variable {P : Program} {ops : Array Oper} {o : Oper} {a : Act} {Q : Exit → Act → World → Prop} {Kc : Act → World → Prop} {α : Type}
theorem R_append_step (d : Kd α) {w0 W : World} (base : Nat) (hw : Region.wanted o (yielded ops a.tmps) = true) (s x : Operand) (t e : TypeId) (z : Value) (bytes : Nat)
  (ho : o.op = .call { callee := .builtin .append, args := #[s, x], argTypes := #[t, t] })
  (ht : P.underlying t = some (.slice e)) (hinfo : (P.info? e).map (fun i => (i.zero, i.size, i.bytes)) = some (some z, d.sz, bytes)) (hz : z.cells.size = d.sz) (hs0 : 0 < d.sz) (hb0 : 0 < bytes)
  (v : Value) (xs : List α) (p : α) (cs : List Value) (ok okp : Nat → Prop) (hs : a.eval s = v) (hx : a.eval x = .slice (some ⟨W.heap.size, 0, none⟩) 1 1) (hp : d.M W base okp p cs) (hokp : ∀ k, okp k → ok k ∧ some k ≠ v.ownBlock) (hfresh : ∀ k, W.heap.size ≤ k → ok k)
  (HO : d.R e W base ok v xs) (HB : Below base w0 W) (hbase : base ≤ W.heap.size) (hl : (xs.length + 1) * bytes ≤ 140737488355328)
  (h : ∀ v1 w1, d.R e w1 base ok v1 (xs ++ [p]) → Below base w0 w1 → W.grownBy w1 v.ownBlock → (v1.ownBlock = v.ownBlock ∨ ∃ b, v1.ownBlock = some b ∧ W.heap.size ≤ b) → Kc (a.put o.dst v1) w1) :
  if Region.wanted o (yielded ops a.tmps) = true then Oper.wp P o a (W.alloc (.cells cs.toArray e)) Kc Q else Kc (a.put o.dst undef) (W.alloc (.cells cs.toArray e)) := by
 obtain ⟨h0, inner, hown, hr⟩ := HO
 refine step_append_cells base hw s x t e z d.sz bytes ho ht hinfo hz hs0 hb0 v xs.length inner cs hs hx (d.K_len (d.K_of_M hp)) (d.K_one (d.K_of_M hp)) hown HB hbase hl ?_
 intro v1 w1 hown1 hb1 hg1 hat1
 exact h v1 w1 (R_appended h0 hr hp hokp hfresh hown1 hg1 hat1) hb1 hg1 hat1
end
theorem own_of_R {α : Type} {enc : α → Value} {h1 : ∀ x, (enc x).oneCell' = true} {e : Nat} {w : World} {base : Nat} {ok : Nat → Prop} {v : Value} {xs : List α} (h : (scalar enc h1).R e w base ok v xs) : w.ownsRow base e 1 v xs.length (encs enc xs) := by
 obtain ⟨_, inner, ho, hr⟩ := h
 have : inner = encs enc xs := by
  apply List.ext_getElem?
  intro j
  rcases Nat.lt_or_ge j xs.length with hj | hj
  ·have h2 := hr.2 j _ (List.getElem?_eq_getElem hj)
   have hl : j < inner.length := by have := hr.1; simp [scalar] at this; omega
   have h3 : (inner.drop (j * 1)).take 1 = [enc xs[j]] := h2
   rw [Nat.mul_one, List.drop_eq_getElem_cons hl] at h3
   have h4 : inner[j] = enc xs[j] := by
    have h5 := congrArg List.head? h3
    rw [List.take_succ_cons] at h5
    exact Option.some.inj h5
   rw [List.getElem?_eq_getElem hl, h4]
   simp [encs, List.getElem?_eq_getElem hj]
  ·have h3 : inner.length = xs.length := by have := hr.1; simp [scalar] at this; omega
   rw [List.getElem?_eq_none (by omega), List.getElem?_eq_none (by rw [encs_length]; omega)]
 rw [← this]
 exact ho
theorem reads_of_C {α : Type} {enc : α → Value} {d : α} {h1 : ∀ x, (enc x).oneCell' = true} {w : World} {A : Option Addr} {n : Nat} {xs : List α} (h : (scalar enc h1).C w A n xs) : ReadsOf enc d w A n xs := by
 refine ⟨h.1, h.2.1, fun hn => ?_⟩
 obtain ⟨ad, e, hc⟩ := h.2.2 hn
 refine ⟨ad, e, fun j hj => ?_⟩
 have hl : j < xs.length := by have := h.1; omega
 obtain ⟨c, _, hK, hcell⟩ := hc j _ (List.getElem?_eq_getElem hl)
 have hK' : c = [enc xs[j]] := hK
 subst hK'
 have := hcell 0 _ rfl
 simpa [scalar, List.getD_eq_getElem?_getD, List.getElem?_eq_getElem hl] using this
end Kd
/-! ### 24. Kinds nested in themselves -/
namespace Kd
section
variable {α : Type} {F : Kd α → Kd α} {sz : Nat} {E : List Nat} {hs : ∀ n, (upto F sz E n).sz = sz} {hE : ∀ n q, q ∈ (upto F sz E n).E → q ∈ E}
end
end Kd
/-! ### 25. What is held while another row is written: 'ok' says that its rows are none of that row's block -/
namespace Kd
/-- Behind an append to v (it left v1): what is held apart from v is held apart from v1. -/
theorem R_after {α : Type} {d : Kd α} {e base : Nat} {ok : Nat → Prop} {W w1 : World} {u v v1 : Value} {xs : List α} (h : d.R e W base (fun k => ok k ∧ some k ≠ v.ownBlock) u xs) (hg : W.grownBy w1 v.ownBlock) (hat : v1.ownBlock = v.ownBlock ∨ ∃ b, v1.ownBlock = some b ∧ W.heap.size ≤ b) : d.R e w1 base (fun k => ok k ∧ some k ≠ v1.ownBlock) u xs := by
 refine R_mono (R_move (R_bound h) (fun k hk => hg.block k hk.2.2.1 hk.1.2)) (fun k hk => ⟨hk.1.1, ?_⟩)
 rcases hat with hat | ⟨b, hb, hle⟩
 ·rw [hat]; exact hk.1.2
 ·rw [hb]
  intro he
  injection he with he
  have := hk.2.2.1
  omega
end Kd
/-! ### 26. Words for a printer that takes every slice by its kind -/
namespace Kd
section
variable {α β : Type} {d : Kd α} {d' : Kd β} {e e' : Nat} {w w1 W : World} {base b b' : Nat} {ok ok' okv oku : Nat → Prop} {v u : Value} {xs : List α} {ys : List β}
theorem R_alloc (h : d.R e w base ok v xs) (o : Obj) : d.R e (w.alloc o) base ok v xs := R_below h (below_alloc (Below.refl _ _) o)
theorem R_drew (h : d.R e w base ok v xs) : d.R e w.drew base ok v xs := R_below h (below_drew (Below.refl _ _))
theorem R_drewN (h : d.R e w base ok v xs) (m : Nat) : d.R e (w.drewN m) base ok v xs := R_below h (pw_below_drewN (Below.refl _ _) m)
theorem C_alloc {A : Option Addr} {n : Nat} (h : d.C w A n xs) (o : Obj) : d.C (w.alloc o) A n xs := C_below h (below_alloc (Below.refl _ _) o)
theorem C_nil (d : Kd α) (w : World) : d.C w none ([] : List α).length [] := ⟨rfl, by simp, fun h => absurd h (Nat.lt_irrefl 0)⟩
theorem R_reads' {A : Option Addr} {n c : Nat} (h : d.R e w base ok (.slice A n c) xs) : n = xs.length ∧ n ≤ c ∧ d.C w A xs.length xs := by
 obtain ⟨A', c', he, hl, hr⟩ := R_reads h
 injection he with h1 h2 h3
 subst h1
 exact ⟨h2, by omega, hr⟩
theorem R_lt (h : d.R e w base ok v xs) : ∀ k, v.ownBlock = some k → k < w.heap.size := by
 obtain ⟨inner, ho⟩ := R_own h
 exact own_lt ho
theorem R_base (h : d.R e w base ok v xs) : ∀ k, v.ownBlock = some k → base ≤ k := by
 obtain ⟨inner, ho⟩ := R_own h
 exact own_base ho
/-- The row's own block is no block that isn't ok. -/
theorem R_away (h : d.R e w base ok v xs) {g : Nat} (hok : ∀ k, ok k → k ≠ g) : some g ≠ v.ownBlock := fun e => hok g (h.1 g e.symm) rfl
theorem R_form (h : d.R e w base ok v xs) (hp : 0 < xs.length) : ∃ g cap, v = .slice (some ⟨g, 0, none⟩) xs.length cap ∧ base ≤ g ∧ g < w.heap.size ∧ ∃ cells, w.heap[g]? = some (.cells cells e (0, 0)) := by
 obtain ⟨inner, ho⟩ := R_own h
 obtain ⟨g, cap, he, hb, hl⟩ := ho.form hp
 obtain ⟨cells, hc⟩ := own_typed ho g (by rw [he]; simp [Value.ownBlock])
 exact ⟨g, cap, he, hb, hl, cells, hc⟩
end
/-! #### scalars -/
section
variable {w W : World} {A : Option Addr} {n : Nat}
theorem at_int {k : IntKind} {xs : List Int} (h : (Kd.int k).C w A n xs) (i : Int) (h0 : 0 ≤ i) (h1 : i < n) : ∃ ad, A = some ad ∧ w.cell? (ad.add i.toNat) = some (.int k (rd xs i)) :=
 ReadsOf.at_ (reads_of_C (enc := Value.int k) (d := (0 : Int)) (h1 := fun _ => rfl) h) i h0 h1
variable {α : Type} {enc : α → Value} {h1 : ∀ x, (enc x).oneCell' = true} {e base g cap : Nat} {ok : Nat → Prop} {xs : List α}
end
/-! #### events: a letter for what make and a literal leave -/
section
variable {P : Program} {ops : Array Oper} {rest : List Oper} {o : Oper} {a : Act} {Q : Exit → Act → World → Prop}
theorem event_run {W w1 : World} {v : Value} (hgd : o.guard = none) (hrun : (execOp a.eval o).run P W = .ok (.value v) w1) (h : wpList P ops Q rest (a.put o.dst v) w1) : wpList P ops Q (o :: rest) a W := by
 refine wpList_plain hgd fun K hK => ?_
 unfold Oper.wp
 rw [hrun]
 exact hK _ _ h
variable {α : Type}
/-- A literal '[]T{..}': inner its cells. 'hd' picks the operation; 'hrun' by '(by go_simp; rfl)'. -/
theorem R_lit (d : Kd α) {w0 W : World} (base e : Nat) (hgd : o.guard = none) {N : Tmp} (_hd : o.dst = some N) {xs : List α} {inner : List Value} {ok okp : Nat → Prop}
  (hrun : (execOp a.eval o).run P W = .ok (.value (.slice (some ⟨W.heap.size, 0, none⟩) xs.length xs.length)) (W.alloc (.cells inner.toArray e)))
  (hrep : Reps (d.M W base okp) d.sz xs inner) (hok : ∀ k, okp k → ok k) (hfresh : ok W.heap.size) (HB : Below base w0 W) (hbase : base ≤ W.heap.size) (hm : xs.length ≤ 9223372036854775807)
  (h : ∀ v1 w1, d.R e w1 base ok v1 xs → Below base w0 w1 → W.grownBy w1 none → (∃ b, v1.ownBlock = some b ∧ W.heap.size ≤ b) → wpList P ops Q rest (a.put o.dst v1) w1) : wpList P ops Q (o :: rest) a W := by
 refine event_run hgd hrun (h _ _ ⟨fun k hk => ?_, inner, ?_, ?_⟩ (HB.alloc hbase _) (World.grownBy_alloc W _ none) ⟨W.heap.size, by simp [Value.ownBlock], Nat.le_refl _⟩)
 ·have : W.heap.size = k := by simpa [Value.ownBlock] using hk
  subst this
  exact hfresh
 ·have h2 := World.ownsRow_lit (base := base) (e := e) (size := d.sz) W inner.toArray xs.length hbase (by simpa [maxLen] using hm) (by simpa using hrep.1)
  simpa using h2
 ·refine hrep.imp_ (fun p c hp => d.M_mono (fun k hk => ⟨hok k hk.1, fun he => ?_⟩) (M_below (d.M_bound hp) (below_alloc (Below.refl _ _) _)))
  have h3 : k = W.heap.size := by simpa [Value.ownBlock] using he
  have := hk.2.2.1
  omega
end
end Kd
/-! ### 27. Cuts of a row of one's own: 'xs = xs[:n]' stays a row (R_take); 'xs = xs[k:]' is a row that begins inside its block (Kd.Q), append goes on it too -/
section
variable {P : Program}
theorem cut_from (t e : TypeId) (kl : IntKind) {i : TypeInfo} (ht : P.underlying t = some (.slice e)) (hi : P.info? e = some i) (size : Nat) (hsz : i.size = size) (A : Option Addr) (n c : Nat) (j : Int) (h0 : 0 ≤ j) (hm : j ≤ n) :
  ∀ W : World, (Instr.slice t (.slice A n c) (some (.int kl j)) none none).run P W = .ok (.slice (if c = j.toNat then A else A.map (·.add (j.toNat * size))) (n - j.toNat) (c - j.toNat)) W := by
 intro W
 have hel : P.elem t = e := by simp [Program.elem, ht]
 have hu : P.underlying t = some (.slice (P.elem t)) := by rw [hel]; exact ht
 rw [run_slice_l W t A n c hu kl j h0 hm, hel]
 simp [sizeOf, typeInfo, hi, hsz, sliced, Result.andThen]
end
section
variable {w w1 : World} {base n size : Nat} {e : TypeId} {v : Value} {xs : List Value}
/-- What a run of cells written leaves. -/
theorem setCells_far {g : Nat} : ∀ (vs : List Value) (o : Nat) {w : World} (k : Nat), k ≠ g → (w.setCells g o vs).heap[k]? = w.heap[k]?
 | [], _, _, _, _ => rfl
 | v :: r, o, w, k, hk => by
  rw [World.setCells, setCells_far r (o + 1) k hk]
  exact Below.heap_setCell w ⟨g, o, none⟩ v k hk
theorem setCells_same (g : Nat) : ∀ (vs : List Value) (o : Nat) (w : World), (w.setCells g o vs).os = w.os ∧ (w.setCells g o vs).tape = w.tape ∧ (w.setCells g o vs).output = w.output ∧ (w.setCells g o vs).heap.size = w.heap.size
 | [], _, _ => ⟨rfl, rfl, rfl, rfl⟩
 | v :: r, o, w => by
  obtain ⟨h1, h2, h3, h4⟩ := setCells_same g r (o + 1) (w.setCell ⟨g, o, none⟩ v)
  rw [World.setCells]
  exact ⟨h1, h2, h3, by rw [h4]; simp [World.setCell]⟩
theorem setCells_row {g : Nat} {e : TypeId} : ∀ (vs : List Value) (o : Nat) (w : World) (cur : Array Value), w.heap[g]? = some (.cells cur e (0, 0)) → o + vs.length ≤ cur.size →
  ∃ cur', (w.setCells g o vs).heap[g]? = some (.cells cur' e (0, 0)) ∧ cur'.size = cur.size ∧ cur'.toList = cur.toList.take o ++ vs ++ cur.toList.drop (o + vs.length)
 | [], o, w, cur, h, _ => ⟨cur, h, rfl, by simp⟩
 | v :: r, o, w, cur, h, hl => by
  have h2 := blk_set h o v
  simp only [List.length_cons] at hl
  obtain ⟨cur', h3, h4, h5⟩ := setCells_row r (o + 1) (w.setCell ⟨g, o, none⟩ v) _ h2 (by simp; omega)
  refine ⟨cur', h3, by rw [h4]; simp, ?_⟩
  rw [h5, Array.toList_setIfInBounds]
  have ho : o < cur.toList.length := by rw [Array.length_toList]; omega
  rw [List.take_set, List.drop_set_of_lt (by omega)]
  simp only [List.length_cons]
  rw [show o + 1 + r.length = o + (r.length + 1) by omega]
  congr 1
  rw [List.take_succ_eq_append_getElem ho, List.set_append_right _ _ (by rw [List.length_take]; omega)]
  have ho' : o < cur.size := by omega
  simp [Nat.min_eq_left (Nat.le_of_lt ho')]
end
section
variable {P : Program}
end
/-! ### 28. The kinds' words for cuts: R_take; Q (a row that may begin inside its block) with all of R's movers -/
namespace Kd
section
variable {α : Type} {d : Kd α} {e : Nat} {w w1 W : World} {base : Nat} {ok ok' : Nat → Prop} {v : Value} {xs : List α}
end
section
variable {P : Program} {ops : Array Oper} {rest : List Oper} {o : Oper} {a : Act} {Q' : Exit → Act → World → Prop} {Kc : Act → World → Prop} {α : Type}
end
end Kd
/-! ### 29. Movers that ask of another row no more than they need: for R and for Q -/
namespace Kd
section
variable {α : Type} {d : Kd α} {e e' : Nat} {w w1 W : World} {base : Nat} {ok : Nat → Prop} {u v : Value} {xs : List α}
theorem R_typed (h : d.R e w base ok v xs) : ∀ k, v.ownBlock = some k → ∃ cells, w.heap[k]? = some (.cells cells e (0, 0)) := by
 obtain ⟨inner, ho⟩ := R_own h
 exact fun k hk => own_typed ho k hk
theorem R_over' (h : d.R e W base ok u xs) (hty : ∀ k, v.ownBlock = some k → ∃ cells, W.heap[k]? = some (.cells cells e' (0, 0))) (ht : ∀ q, q ∈ e :: d.E → q ≠ e') (hg : W.grownBy w1 v.ownBlock) : d.R e w1 base ok u xs := by
 refine R_mono (R_move (R_bound h) (fun k hk => hg.block k hk.2.2.1 (fun he => ?_))) (fun _ hk => hk.1)
 obtain ⟨_, _, _, q, hq, cells, hc⟩ := hk
 obtain ⟨cells', hc'⟩ := hty k he.symm
 rw [hc] at hc'
 injection hc' with hc'
 injection hc' with _ hc'
 exact ht q hq hc'
theorem R_apart' (h : d.R e W base ok u xs) (hty : ∀ k, v.ownBlock = some k → ∃ cells, W.heap[k]? = some (.cells cells e' (0, 0))) (ht : ∀ q, q ∈ e :: d.E → q ≠ e') : d.R e W base (fun k => ok k ∧ some k ≠ v.ownBlock) u xs := by
 refine R_mono (R_bound h) (fun k hk => ⟨hk.1, fun he => ?_⟩)
 obtain ⟨_, _, _, q, hq, cells, hc⟩ := hk
 obtain ⟨cells', hc'⟩ := hty k he.symm
 rw [hc] at hc'
 injection hc' with hc'
 injection hc' with _ hc'
 exact ht q hq hc'
theorem R_elder' (hu : d.R e W base ok u xs) (hbase : ∀ k, v.ownBlock = some k → W.heap.size ≤ k) (hb : Below W.heap.size W w1) : d.R e w1 base (fun k => ok k ∧ some k ≠ v.ownBlock) u xs :=
 R_mono (R_move (R_bound hu) (fun k hk => hb.block k hk.2.2.1)) (fun k hk => ⟨hk.1, fun he => by have := hbase k he.symm; have := hk.2.2.1; omega⟩)
theorem R_new' (h : d.R e w1 W.heap.size ok v xs) (hlt : ∀ k, u.ownBlock = some k → k < W.heap.size) : d.R e w1 W.heap.size (fun k => ok k ∧ some k ≠ u.ownBlock) v xs :=
 R_mono (R_bound h) (fun k hk => ⟨hk.1, fun he => by have := hlt k he.symm; have := hk.2.1; omega⟩)
theorem fresh' (hlt : ∀ k, u.ownBlock = some k → k < W.heap.size) : ∀ k, W.heap.size ≤ k → some k ≠ u.ownBlock := fun k hk he => by have := hlt k he.symm; omega
end
end Kd
/-! ### 30. Elements written: x[i] = T{..}, x[i].f = v, swaps, in a row of elements of any kind -/
theorem seg_get {α : Type} (a seg : List α) (o : Nat) (h : o + seg.length ≤ a.length) (q : Nat) :
  (a.take o ++ seg ++ a.drop (o + seg.length))[q]? = if q < o then a[q]? else if q < o + seg.length then seg[q - o]? else a[q]? := by
 have hl : (a.take o).length = o := by rw [List.length_take]; omega
 rw [List.append_assoc]
 by_cases h1 : q < o
 ·rw [if_pos h1, List.getElem?_append_left (by omega), List.getElem?_take, if_pos h1]
 ·rw [if_neg h1, List.getElem?_append_right (by omega), hl]
  by_cases h2 : q < o + seg.length
  ·rw [if_pos h2, List.getElem?_append_left (by omega)]
  ·rw [if_neg h2, List.getElem?_append_right (by omega), List.getElem?_drop]
   congr 1
   omega
namespace Kd
section
variable {α : Type} {d : Kd α} {e base g n cap : Nat} {ok okp : Nat → Prop} {W : World} {xs : List α}
/-- Element i of a row of one's own: its cells. -/
theorem R_elem (h : d.R e W base ok (.slice (some ⟨g, 0, none⟩) n cap) xs) (z : α) (i : Int) (h0 : 0 ≤ i) (h1 : i < n) :
  ∃ c, c.length = d.sz ∧ d.M W base (fun k => ok k ∧ k ≠ g) (xs.getD i.toNat z) c ∧ (∀ j u, c[j]? = some u → W.cell? ⟨g, i.toNat * d.sz + j, none⟩ = some u) ∧ ∀ j, W.frozen? ⟨g, i.toNat * d.sz + j, none⟩ = false := by
 obtain ⟨hn, hnc, hC⟩ := R_reads' h
 obtain ⟨_, inner, ho, hr⟩ := h
 have hil : i.toNat < xs.length := by omega
 have hseg : i.toNat * d.sz + d.sz ≤ inner.length := by rw [hr.1, ← Nat.succ_mul]; exact Nat.mul_le_mul_right _ hil
 have hM := hr.2 i.toNat _ (List.getElem?_eq_getElem hil)
 refine ⟨(inner.drop (i.toNat * d.sz)).take d.sz, by rw [List.length_take, List.length_drop]; omega, ?_, fun j u hu => ?_, fun j => ?_⟩
 ·rw [List.getD_eq_getElem?_getD, List.getElem?_eq_getElem hil]
  exact d.M_mono (fun k hk => ⟨hk.1, fun he => hk.2 (by rw [he]; simp [Value.ownBlock])⟩) hM
 ·rw [List.getElem?_take] at hu
  split at hu
  ·rw [List.getElem?_drop] at hu
   have := ho.cells (g := g) (by simp [Value.ownBlock]) _ u hu
   rwa [add_plain] at this
  ·cases hu
 ·obtain ⟨cells, hc⟩ := own_typed ho g (by simp [Value.ownBlock])
  exact blk_frozen hc _
/-- A run of cells of element i is written: element i is x' then. c: the element's cells before (R_elem). -/
theorem R_seg (h : d.R e W base ok (.slice (some ⟨g, 0, none⟩) n cap) xs) (i : Int) (h0 : 0 ≤ i) (h1 : i < n) {c seg : List Value} {j : Nat} (hcl : c.length = d.sz) (hcc : ∀ j u, c[j]? = some u → W.cell? ⟨g, i.toNat * d.sz + j, none⟩ = some u)
  (hj : j + seg.length ≤ d.sz) {x' : α} (hM : d.M W base okp x' (c.take j ++ seg ++ c.drop (j + seg.length))) (hokp : ∀ k, okp k → ok k ∧ k ≠ g) :
  d.R e (W.setCells g (i.toNat * d.sz + j) seg) base ok (.slice (some ⟨g, 0, none⟩) n cap) (xs.set i.toNat x') ∧ W.grownBy (W.setCells g (i.toNat * d.sz + j) seg) (some g) := by
 obtain ⟨hn, hnc, _⟩ := R_reads' h
 obtain ⟨hok, inner, ho, hr⟩ := h
 have hil : i.toNat < xs.length := by omega
 have hseg : i.toNat * d.sz + d.sz ≤ inner.length := by rw [hr.1, ← Nat.succ_mul]; exact Nat.mul_le_mul_right _ hil
 have hin : inner.length = n * d.sz := by rw [hr.1, hn]
 obtain ⟨ho1, ho2⟩ := ho
 rcases ho2 with ⟨hv, _⟩ | ⟨g', cap', cur, hv, hb, hh, hnc', hcm, hcs, ht⟩
 ·cases hv
 injection hv with ha _ hc
 injection ha with ha
 injection ha with hg
 subst hg; subst hc
 have hfit : i.toNat * d.sz + j + seg.length ≤ cur.size := by
  have : n * d.sz ≤ cap * d.sz := Nat.mul_le_mul_right _ hnc
  omega
 obtain ⟨cur', h3, h4, h5⟩ := setCells_row seg (i.toNat * d.sz + j) W cur hh hfit
 obtain ⟨s1, s2, s3, s4⟩ := setCells_same g seg (i.toNat * d.sz + j) W
 have hfar : ∀ k, k ≠ g → (W.setCells g (i.toNat * d.sz + j) seg).heap[k]? = W.heap[k]? := fun k hk => setCells_far seg _ k hk
 -- the element's cells before are what was read
 have hcin : ∀ q, q < d.sz → c[q]? = inner[i.toNat * d.sz + q]? := by
  intro q hq
  have hq' : q < c.length := by omega
  have h6 := hcc q _ (List.getElem?_eq_getElem hq')
  rw [cell_of_row W g _ cur e (0, 0) hh] at h6
  rw [List.getElem?_eq_getElem hq', ← h6, ← ht, List.getElem?_take, if_pos (by rw [← hn]; omega), Array.getElem?_toList]
 refine ⟨⟨hok, inner.take (i.toNat * d.sz + j) ++ seg ++ inner.drop (i.toNat * d.sz + j + seg.length), ⟨?_, .inr ⟨g, cap, cur', by rw [List.length_set, hn], hb, h3, by rw [List.length_set, ← hn]; exact hnc, hcm, by rw [h4, hcs], ?_⟩⟩, ?_⟩,
  ⟨s1, s2, s3, by rw [s4]; exact Nat.le_refl _, fun k _ hk => hfar k (fun he => hk (by rw [he]))⟩⟩
 ·rw [List.length_set]
  simp only [List.length_append, List.length_take, List.length_drop]
  rw [hr.1] at hseg ⊢
  omega
 ·rw [List.length_set, ← hn]
  apply List.ext_getElem?
  intro q
  rw [List.getElem?_take, h5]
  rw [seg_get cur.toList seg (i.toNat * d.sz + j) (by rw [Array.length_toList]; omega) q, seg_get inner seg (i.toNat * d.sz + j) (by omega) q]
  have hcur : ∀ q, q < n * d.sz → cur.toList[q]? = inner[q]? := by
   intro q hq
   rw [← ht, List.getElem?_take, if_pos (by rw [← hn]; exact hq)]
  by_cases hq : q < n * d.sz
  ·rw [if_pos hq, hcur q hq]
  ·rw [if_neg hq, if_neg (by omega), if_neg (by omega), List.getElem?_eq_none (by omega)]
 ·refine ⟨?_, fun m p hm => ?_⟩
  ·rw [List.length_set]
   simp only [List.length_append, List.length_take, List.length_drop]
   rw [hr.1] at hseg ⊢
   omega
  ·have hml : m < xs.length := by
    have := (List.getElem?_eq_some_iff.1 hm).1
    rwa [List.length_set] at this
   have hmfit : m * d.sz + d.sz ≤ inner.length := by rw [hr.1, ← Nat.succ_mul]; exact Nat.mul_le_mul_right _ hml
   have hgo : some g = (Value.slice (some ⟨g, 0, none⟩) n cap).ownBlock := by simp [Value.ownBlock]
   by_cases hmi : m = i.toNat
   ·subst hmi
    rw [List.getElem?_set_self (by omega)] at hm
    injection hm with hm
    subst hm
    have hcells : ((inner.take (i.toNat * d.sz + j) ++ seg ++ inner.drop (i.toNat * d.sz + j + seg.length)).drop (i.toNat * d.sz)).take d.sz = c.take j ++ seg ++ c.drop (j + seg.length) := by
     apply List.ext_getElem?
     intro q
     rw [List.getElem?_take, List.getElem?_drop, seg_get inner seg _ (by omega), seg_get c seg j (by omega) q]
     by_cases hq : q < d.sz
     ·rw [if_pos hq, hcin q hq]
      by_cases hq1 : q < j
      ·rw [if_pos (by omega), if_pos hq1]
      ·rw [if_neg (by omega), if_neg hq1]
       by_cases hq2 : q < j + seg.length
       ·rw [if_pos (by omega), if_pos hq2]
        congr 1
        omega
       ·rw [if_neg (by omega), if_neg hq2]
     ·rw [if_neg hq, if_neg (by omega), if_neg (by omega), List.getElem?_eq_none (by omega)]
    rw [hcells]
    refine d.M_mono (fun k hk => ?_) (d.M_move (w1 := W.setCells g (i.toNat * d.sz + j) seg) (fun k hk => hfar k (hokp k hk).2) hM)
    exact ⟨(hokp k hk).1, fun he => (hokp k hk).2 (by rw [← hgo] at he; injection he)⟩
   ·rw [List.getElem?_set_ne (by omega)] at hm
    have hold := hr.2 m p hm
    have hcells : ((inner.take (i.toNat * d.sz + j) ++ seg ++ inner.drop (i.toNat * d.sz + j + seg.length)).drop (m * d.sz)).take d.sz = (inner.drop (m * d.sz)).take d.sz := by
     apply List.ext_getElem?
     intro q
     rw [List.getElem?_take, List.getElem?_take, List.getElem?_drop, List.getElem?_drop, seg_get inner seg _ (by omega)]
     by_cases hq : q < d.sz
     ·rw [if_pos hq, if_pos hq]
      rcases Nat.lt_or_gt_of_ne hmi with hlt | hgt
      ·have : m * d.sz + d.sz ≤ i.toNat * d.sz := by rw [← Nat.succ_mul]; exact Nat.mul_le_mul_right _ hlt
       rw [if_pos (by omega)]
      ·have : i.toNat * d.sz + d.sz ≤ m * d.sz := by rw [← Nat.succ_mul]; exact Nat.mul_le_mul_right _ hgt
       rw [if_neg (by omega), if_neg (by omega)]
     ·rw [if_neg hq, if_neg hq]
    rw [hcells]
    refine d.M_move (fun k hk => hfar k (fun he => hk.2 (by rw [he]; exact hgo))) hold
end
end Kd
/-! ### 31. What came in, put into what is made: 'fixed d w0' (read in w0, whatever happens since), 'or_ a b', 'mix' (a slice that came in, or one that is made) -/
namespace Kd
section
variable {α : Type} {F : Kd α → Kd α} {sz : Nat} {E : List Nat} {hs : ∀ n, (upto F sz E n).sz = sz} {hE : ∀ n q, q ∈ (upto F sz E n).E → q ∈ E}
end
end Kd
/-! ### 32. A whole row appended, of elements of any kind; copy onto a row of scalars of one's own -/
namespace Kd
theorem reps_append {α : Type} {R : α → List Value → Prop} {size : Nat} {ps qs : List α} {cs ds : List Value} (h : Reps R size ps cs) (h' : Reps R size qs ds) : Reps R size (ps ++ qs) (cs ++ ds) := by
 refine ⟨by rw [List.length_append, List.length_append, h.1, h'.1, Nat.add_mul], fun j p hj => ?_⟩
 rcases Nat.lt_or_ge j ps.length with hlt | hge
 ·rw [List.getElem?_append_left hlt] at hj
  have hle : j * size + size ≤ cs.length := by rw [h.1, ← Nat.succ_mul]; exact Nat.mul_le_mul_right _ hlt
  rw [List.drop_append_of_le_length (by omega), List.take_append_of_le_length (by rw [List.length_drop]; omega)]
  exact h.2 j p hj
 ·rw [List.getElem?_append_right hge] at hj
  have h2 := h'.2 (j - ps.length) p hj
  have hle : ps.length * size ≤ j * size := Nat.mul_le_mul_right _ hge
  rw [List.drop_append, List.drop_eq_nil_of_le (by rw [h.1]; exact hle), List.nil_append, h.1, ← Nat.sub_mul]
  exact h2
section
variable {P : Program} {ops : Array Oper} {rest : List Oper} {o : Oper} {a : Act} {Q : Exit → Act → World → Prop} {α : Type}
/-- append(v, ys...): Rr is what is known of a read element's cells (d.K W; or k<T>.K w0 for a row that came in), hKM: it may stand as_ made. -/
theorem R_append_rows (d : Kd α) {Rr : α → List Value → Prop} {w0 W : World} (base : Nat) (hgd : o.guard = none) (s x : Operand) (t e : TypeId) (z : Value) (bytes : Nat)
  (ho : o.op = .call { callee := .builtin .append, args := #[s, x], argTypes := #[t, t] })
  (ht : P.underlying t = some (.slice e)) (hinfo : (P.info? e).map (fun i => (i.zero, i.size, i.bytes)) = some (some z, d.sz, bytes)) (hz : z.cells.size = d.sz) (hs0 : 0 < d.sz) (hb0 : 0 < bytes)
  (v : Value) (xs ys : List α) (A : Option Addr) (m c : Nat) (ok okp : Nat → Prop) (hs : a.eval s = v) (hx : a.eval x = .slice A m c)
  (HO : d.R e W base ok v xs) (HR : ReadsRow Rr d.sz W A m ys) (hKM : ∀ x cs, Rr x cs → d.M W base okp x cs) (hokp : ∀ k, okp k → ok k ∧ some k ≠ v.ownBlock) (hfresh : ∀ k, W.heap.size ≤ k → ok k)
  (HB : Below base w0 W) (hbase : base ≤ W.heap.size) (hl : (xs.length + m) * bytes ≤ 140737488355328)
  (h : ∀ v1 w1, d.R e w1 base ok v1 (xs ++ ys) → Below base w0 w1 → W.grownBy w1 v.ownBlock → (v1.ownBlock = v.ownBlock ∨ ∃ b, v1.ownBlock = some b ∧ W.heap.size ≤ b) → wpList P ops Q rest (a.put o.dst v1) w1) :
  wpList P ops Q (o :: rest) a W := by
 obtain ⟨i0, hi, hzz⟩ := Option.map_eq_some_iff.1 hinfo
 simp only [Prod.mk.injEq] at hzz
 obtain ⟨hz0, hz1, hz2⟩ := hzz
 have hm : ys.length = m := HR.1
 have hlen : xs.length + m ≤ 140737488355328 := Nat.le_trans (Nat.le_mul_of_pos_right _ hb0) hl
 obtain ⟨hok, inner, hown, hr⟩ := HO
 have hrun : ∃ v1 w1, (Builtin.append_ #[t, t] o.type #[v, .slice A m c]).run P W = .ok v1 w1 ∧ d.R e w1 base ok v1 (xs ++ ys) ∧ W.grownBy w1 v.ownBlock ∧ (v1.ownBlock = v.ownBlock ∨ ∃ b, v1.ownBlock = some b ∧ W.heap.size ≤ b) := by
  rcases A with _ | ad
  ·have h0 : m = 0 := by
    rcases Nat.eq_zero_or_pos m with h0 | h0
    ·exact h0
    ·obtain ⟨ad, h, _⟩ := HR.2.2 h0
     cases h
   subst h0
   obtain rfl : ys = [] := List.eq_nil_of_length_eq_zero hm
   refine ⟨v, W, ?_, by rw [List.append_nil]; exact ⟨hok, inner, hown, hr⟩, World.grownBy.refl W _, .inl rfl⟩
   rcases hown.2 with ⟨rfl, hn⟩ | ⟨g, cap, cur, rfl, _, _, hnc, _⟩
   ·simp [Builtin.append_, run_underlying ht, sizeOf, typeInfo, hi, Builtin.lenOf, Builtin.firstCells]
   ·simp [Builtin.append_, run_underlying ht, sizeOf, typeInfo, hi, Builtin.lenOf, Builtin.firstCells, hnc, storeCells]
  ·obtain ⟨news, hnr, hnc⟩ := ReadsRow.inner_ HR
   have hnM : Reps (d.M W base okp) d.sz ys news := hnr.imp_ (fun p c hp => hKM p c hp)
   have hone : ∀ u ∈ news, u.oneCell' = true := by
    intro u hu
    obtain ⟨q, hq, rfl⟩ := List.mem_iff_getElem.1 hu
    have hql : q / d.sz < ys.length := by
     rw [Nat.div_lt_iff_lt_mul hs0]
     rw [← hnM.1]
     exact hq
    have hc := hnM.2 (q / d.sz) _ (List.getElem?_eq_getElem hql)
    refine d.K_one (d.K_of_M hc) _ ?_
    rw [List.mem_iff_getElem?]
    refine ⟨q % d.sz, ?_⟩
    rw [List.getElem?_take, if_pos (Nat.mod_lt _ hs0), List.getElem?_drop, Nat.mul_comm, Nat.div_add_mod, List.getElem?_eq_getElem hq]
   obtain ⟨v1, w1, hrun, h2, hg, _, hat⟩ := run_append_own_at (P := P) W base t o.type e i0 z d.sz bytes ht hi hz0 hz1 hz2 hz hs0 v xs.length inner hown ad m c news (by rw [hnM.1, hm]) hnc hone (by simp only [maxLen]; omega) hl hbase
   have hat' : v1.ownBlock = v.ownBlock ∨ ∃ b, v1.ownBlock = some b ∧ W.heap.size ≤ b := by
    rcases hat with hat | hat
    ·exact .inl hat
    ·exact .inr ⟨_, hat, Nat.le_refl _⟩
   have hne : ∀ k, some k ≠ v.ownBlock → k < W.heap.size → some k ≠ v1.ownBlock := by
    intro k hk hlt
    rcases hat' with hat | ⟨b, hb, hle⟩
    ·rw [hat]; exact hk
    ·rw [hb]
     intro he
     injection he with he
     omega
   have step : ∀ {q : α} {c : List Value} {o : Nat → Prop}, d.M W base o q c → (∀ k, o k → ok k ∧ some k ≠ v.ownBlock) → d.M w1 base (fun k => ok k ∧ some k ≠ v1.ownBlock) q c := by
    intro q c o hq ho
    have h1 := d.M_move (w1 := w1) (fun k hk => hg.block k hk.2.2.1 (ho k hk.1).2) (d.M_bound hq)
    exact d.M_mono (fun k hk => ⟨(ho k hk.1).1, hne k (ho k hk.1).2 hk.2.2.1⟩) h1
   refine ⟨v1, w1, hrun, ⟨fun k hk => ?_, inner ++ news, by rw [List.length_append, hm]; exact h2, reps_append (hr.imp_ (fun _ _ hq => step hq (fun _ hk => hk))) (hnM.imp_ (fun _ _ hq => step hq hokp))⟩, hg, hat'⟩
   rcases hat' with hat | ⟨b, hb, hle⟩
   ·exact hok k (hat ▸ hk)
   ·rw [hb] at hk
    injection hk with hk
    exact hfresh k (by omega)
 obtain ⟨v1, w1, hr1, h1, hg, hat⟩ := hrun
 refine wpList_plain hgd fun K hK => ?_
 unfold Oper.wp execOp
 simp only [ho, resolve, invoke, builtin, Sem.run_bind, Sem.run_pure, Result.andThen_ok, List.map_toArray, List.map_cons, List.map_nil, hs, hx, hr1]
 exact hK _ _ (h v1 w1 h1 (HB.grown hg hbase (own_base hown)) hg hat)
end
end Kd
/-! ### 33. A store into a row of one's own, as_ an event: no go_simp -/
namespace Kd
section
variable {P : Program} {ops : Array Oper} {rest : List Oper} {o : Oper} {a : Act} {Q : Exit → Act → World → Prop} {α : Type}
end
end Kd
/-! ### 34. Cuts that are only read, of any row -/
theorem add_add (a : Addr) (i j : Nat) : (a.add i).add j = a.add (i + j) := by
 unfold Addr.add
 by_cases h1 : i = 0 <;> by_cases h2 : j = 0 <;> simp [h1, h2, Nat.add_assoc]
namespace Kd
section
variable {α : Type} {k : Kd α} {w : World} {A : Option Addr} {xs : List α} {m c : Nat}
theorem C_drop (h : k.C w A xs.length xs) (hm : m ≤ xs.length) (hc : xs.length ≤ c) : k.C w (if c = m then A else A.map (·.add (m * k.sz))) (xs.drop m).length (xs.drop m) := by
 have hl : (xs.drop m).length = xs.length - m := List.length_drop
 refine ⟨rfl, by rw [hl]; have := h.2.1; omega, fun hp => ?_⟩
 rw [hl] at hp
 obtain ⟨ad, rfl, hcell⟩ := h.2.2 (by omega)
 rw [if_neg (by omega)]
 refine ⟨ad.add (m * k.sz), rfl, fun j p hj => ?_⟩
 rw [List.getElem?_drop] at hj
 obtain ⟨cs, h1, h2, h3⟩ := hcell (m + j) p hj
 refine ⟨cs, h1, h2, fun i u hu => ?_⟩
 rw [add_add, show m * k.sz + (j * k.sz + i) = (m + j) * k.sz + i by rw [Nat.add_mul]; omega]
 exact h3 i u hu
end
end Kd
section
variable {P : Program}
end
/-! ### 35. string(b), b read (a cut too) -/
/-! ### 6. What the printer adds -/
theorem below_size {w W : World} (h : Below w.heap.size w W) : w.heap.size ≤ W.heap.size := h.size
theorem below_step {w W w2 : World} (h : Below w.heap.size w W) (k : Below W.heap.size W w2) : Below w.heap.size w w2 := below_then h h.size k
theorem ReadsInt.drewN {W : World} {k : IntKind} {A : Option Addr} {n : Nat} {xs : List Int} (h : ReadsInt W k A n xs) (m : Nat) : ReadsInt (W.drewN m) k A n xs := h
theorem below_set {w W : World} {g j : Nat} {v : Value} (h : Below w.heap.size w W) (hg : w.heap.size ≤ g) : Below w.heap.size w (W.setCell ⟨g, j, none⟩ v) := h.setCell hg _
theorem ReadsOf.drewN {α : Type} {enc : α → Value} {d : α} {W : World} {A : Option Addr} {n : Nat} {xs : List α} (h : ReadsOf enc d W A n xs) (m : Nat) : ReadsOf enc d (W.drewN m) A n xs := h
theorem blk_put {w : World} {g : Nat} {t : TypeId} {cs cs' : Array Value} (h : w.heap[g]? = some (.cells cs t (0, 0))) (i : Nat) (u : Value) (e : cs.setIfInBounds i u = cs') : (w.setCell ⟨g, i, none⟩ u).heap[g]? = some (.cells cs' t (0, 0)) := e ▸ blk_set h i u
theorem below_drew1 {base : Nat} {w W : World} (h : Below base w W) : Below base w W.drew := h.drew
namespace Kd
section
variable {α β : Type} {d : Kd α} {d' : Kd β} {e e' base base' n : Nat} {ok ok' : Nat → Prop} {w W w1 W1 : World} {v u : Value} {xs : List α} {ys : List β} {A : Option Addr} {c : Nat}
end
section
variable {α : Type} {enc : α → Value} {h1 : ∀ x, (enc x).oneCell' = true} {w W : World} {A : Option Addr} {n g : Nat} {xs : List α}
end
end Kd
namespace Kd
section
variable {α : Type} {d : Kd α} {e base g : Nat} {ok : Nat → Prop} {w w1 : World} {v : Value} {xs : List α} {o : Obj}
theorem R_elderB (h : d.R e w base ok v xs) (a : Nat) (ha : w.heap.size ≤ a) : d.R e w base (fun k => ok k ∧ k ≠ a) v xs := R_mono (R_bound h) (fun k hk => ⟨hk.1, by have := hk.2.2.1; omega⟩)
theorem freshB (hb : w.heap[g]? = some o) : ∀ k, w.heap.size ≤ k → k ≠ g := fun k hk => by have := blk_lt hb; omega
end
end Kd
section
variable {P : Program} {ops : Array Oper} {rest : List Oper} {o : Oper} {a : Act} {Q : Exit → Act → World → Prop}
theorem box_event {W : World} (hgd : o.guard = none) {N : Tmp} (_hd : o.dst = some N) {cs : Array Value} {t : TypeId}
  (hrun : (execOp a.eval o).run P W = .ok (.value (.pointer (some ⟨W.heap.size, 0, none⟩))) (W.alloc (.cells cs t (0, 0))))
  (h : ∀ g, g = W.heap.size → ∀ w1, w1.heap[g]? = some (.cells cs t (0, 0)) → Below W.heap.size W w1 → wpList P ops Q rest (a.put o.dst (.pointer (some ⟨g, 0, none⟩))) w1) : wpList P ops Q (o :: rest) a W :=
 Kd.event_run hgd hrun (h _ rfl _ (blk_new W _) (below_alloc (Below.refl _ _) _))
end
namespace Kd
section
variable {α : Type} {enc : α → Value} {h1 : ∀ x, (enc x).oneCell' = true} {e base g n cap : Nat} {ok : Nat → Prop} {W : World} {xs : List α}
end
end Kd
section
variable {P : Program} {ops : Array Oper} {rest : List Oper} {o : Oper} {a : Act} {Q : Exit → Act → World → Prop}
theorem store_event {W w1 : World} (hgd : o.guard = none) {t : TypeId} {p : Tmp} {v : Operand} (_ho : o.op = .store t (.tmp p) v) (hN : o.dst = none)
  (hrun : (execOp a.eval o).run P W = .ok .skip w1) (h : ∀ w', w' = w1 → wpList P ops Q rest a w') : wpList P ops Q (o :: rest) a W := by
 refine wpList_plain hgd fun K hK => ?_
 unfold Oper.wp
 rw [hrun]
 show K (a.put o.dst undef) w1
 rw [hN]
 exact hK _ _ (h _ rfl)
end
namespace Kd
section
variable {α : Type} {enc : α → Value} {h1 : ∀ x, (enc x).oneCell' = true} {e base g n cap : Nat} {ok : Nat → Prop} {W : World} {xs : List α}
end
end Kd
section
variable {P : Program} {ops : Array Oper} {rest : List Oper} {o : Oper} {a : Act} {Q : Exit → Act → World → Prop} {W : World}
theorem gate_dst {N : Tmp} (_hN : o.dst = some N) (h : wpList P ops Q (o :: rest) a W) : wpList P ops Q (o :: rest) a W := h
theorem gate_store {t : TypeId} {p : Tmp} {v : Operand} (_ho : o.op = .store t (.tmp p) v) (h : wpList P ops Q (o :: rest) a W) : wpList P ops Q (o :: rest) a W := h
end
/-! ### 36. Events as_ one step of a region that draws (for one_, two_, three_) -/
section
variable {P : Program} {ops : Array Oper} {o : Oper} {a : Act} {Q : Exit → Act → World → Prop} {Kc : Act → World → Prop}
theorem event_step {W w1 : World} {v : Value} (hw : Region.wanted o (yielded ops a.tmps) = true) (hrun : (execOp a.eval o).run P W = .ok (.value v) w1) (h : Kc (a.put o.dst v) w1) : if Region.wanted o (yielded ops a.tmps) = true then Oper.wp P o a W Kc Q else Kc (a.put o.dst undef) W := by
 rw [if_pos hw]
 unfold Oper.wp
 rw [hrun]
 exact h
namespace Kd
variable {α : Type}
theorem R_lit_step (d : Kd α) {w0 W : World} (base e : Nat) (hw : Region.wanted o (yielded ops a.tmps) = true) {N : Tmp} (_hd : o.dst = some N) {xs : List α} {inner : List Value} {ok okp : Nat → Prop}
  (hrun : (execOp a.eval o).run P W = .ok (.value (.slice (some ⟨W.heap.size, 0, none⟩) xs.length xs.length)) (W.alloc (.cells inner.toArray e)))
  (hrep : Reps (d.M W base okp) d.sz xs inner) (hok : ∀ k, okp k → ok k) (hfresh : ok W.heap.size) (HB : Below base w0 W) (hbase : base ≤ W.heap.size) (hm : xs.length ≤ 9223372036854775807)
  (h : ∀ v1 w1, d.R e w1 base ok v1 xs → Below base w0 w1 → W.grownBy w1 none → (∃ b, v1.ownBlock = some b ∧ W.heap.size ≤ b) → Kc (a.put o.dst v1) w1) : if Region.wanted o (yielded ops a.tmps) = true then Oper.wp P o a W Kc Q else Kc (a.put o.dst undef) W := by
 refine event_step hw hrun (h _ _ ⟨fun k hk => ?_, inner, ?_, ?_⟩ (HB.alloc hbase _) (World.grownBy_alloc W _ none) ⟨W.heap.size, by simp [Value.ownBlock], Nat.le_refl _⟩)
 ·have : W.heap.size = k := by simpa [Value.ownBlock] using hk
  subst this
  exact hfresh
 ·have h2 := World.ownsRow_lit (base := base) (e := e) (size := d.sz) W inner.toArray xs.length hbase (by simpa [maxLen] using hm) (by simpa using hrep.1)
  simpa using h2
 ·refine hrep.imp_ (fun p c hp => d.M_mono (fun k hk => ⟨hok k hk.1, fun he => ?_⟩) (M_below (d.M_bound hp) (below_alloc (Below.refl _ _) _)))
  have h3 : k = W.heap.size := by simpa [Value.ownBlock] using he
  have := hk.2.2.1
  omega
end Kd
end
/-! ### 37. Results of any shape -/
inductive Vals (P : Program) (tmps : Array Value) (w : World) : List ResultVar → List Value → Prop where
 | nil : Vals P tmps w [] []
 | tmp {u : Tmp} {rs : List ResultVar} {vs : List Value} (h : Vals P tmps w rs vs) : Vals P tmps w (.tmp u :: rs) (tmps.getD u undef :: vs)
 | cell {p : Tmp} {ty : TypeId} {rs : List ResultVar} {vs : List Value} (g : Nat) (t : TypeId) (cs : Array Value) (fr : Nat × Nat) (d : TypeDesc)
   (hp : tmps.getD p undef = .pointer (some ⟨g, 0, none⟩)) (hg : w.heap[g]? = some (.cells cs t fr))
   (hu : P.underlying ty = some d) (hd : (match d with | .struct _ | .array _ _ => true | _ => false) = true) (hi : (P.info? ty).map (·.size) = some cs.size)
   (h : Vals P tmps w rs vs) : Vals P tmps w (.cell p ty :: rs) (.agg cs :: vs)
section
variable {P : Program} {tmps : Array Value} {w : World}
theorem vals_run {rs : List ResultVar} {vs : List Value} (hv : Vals P tmps w rs vs) (f : ResultVar → Sem Value) (hf : ∀ u, f (.tmp u) = pure (tmps.getD u undef)) (hc : ∀ a t, f (.cell a t) = (do loadVar t (← asAddr (tmps.getD a undef)))) :
  (rs.mapM f).run P w = .ok vs w := by
 induction hv with
 | nil => simp
 | tmp h ih => simp [List.mapM_cons, hf, ih]
 | cell g t cs fr d hp hg hu hd hi h ih =>
  rw [List.mapM_cons, hc, hp]
  simp [asAddr, run_loadVar_row w g t _ cs fr d hg hu hd hi, ih]
theorem results_single {fn : Func} {r : ResultVar} {v : Value} (h : fn.results = #[r]) (hv : Vals P tmps w [r] [v]) : (results fn tmps).run P w = .ok v w := by
 unfold results
 rw [show fn.results = [r].toArray from h, List.mapM_toArray]
 simp only [Sem.run_bind, Sem.run_map]
 rw [vals_run hv]
 ·simp
 ·intro u
  rfl
 ·intro a t
  rfl
end
/-! ### 38. 'out = append(out[:k], out[k+1:]...)': an element taken out of a row of one's own, in place -/
namespace Kd
section
variable {P : Program} {α : Type}
end
section
variable {P : Program} {ops : Array Oper} {rest : List Oper} {o : Oper} {a : Act} {Q : Exit → Act → World → Prop} {Kc : Act → World → Prop} {α : Type}
end
end Kd
end Go.Proofs.YtheheijhijeljaaGreatDoorW.PrintWords
/-
 PRINTED WORDS, second file: A REGION THAT DRAWS ITS ORDER, WALKED BY HAND, where its last store writes what its own loads read ('x.f = append(x.f, f(i))'). Plain theorems; no macro, no elab. A claim may hold it (turn the namespace's name).
 A load may be taken first in every world that meets S; behind the operations of ds nothing is shown; sound because each of ds waits for what is taken (Region.lastB). The kernel checks it.
 By an AI agent of Go's test side, Mon Nov 16 2026. No person has read it.
-/
namespace Go.Proofs.YtheheijhijeljaaGreatDoorW.PrintLast
section
variable {P : Program} {ops : Array Oper} {Q : Exit → Act → World → Prop} {md : Region.Mode} {S : World → Prop} {ds : List Nat}
/-- Operation d waits for operation i, by a chain of at most 'fuel' edges. -/
def Region.reachB (md : Region.Mode) (ops : Array Oper) (i : Nat) : Nat → Nat → Bool
 | 0, _ => false
 | fuel + 1, d => match ops[d]? with
  | some o => o.after.any fun e => Region.binds md e && (e.on == i || Region.reachB md ops i fuel e.on)
  | none => false
/-- What is listed is closed under the edges. -/
def Region.closedB (md : Region.Mode) (ops : Array Oper) (listed : Array Bool) : Bool :=
 (List.range ops.size).all fun j => !listed.getD j false || match ops[j]? with
  | some o => o.after.all fun e => !Region.binds md e || listed.getD e.on false
  | none => true
/-- Each of ds that has not come up yet waits for number i. -/
def Region.lastB (md : Region.Mode) (ops : Array Oper) (listed : Array Bool) (ds : List Nat) (i : Nat) : Bool :=
 ds.all fun d => listed.getD d true || Region.reachB md ops i ops.size d
def ListedClosed (md : Region.Mode) (ops : Array Oper) (listed : Array Bool) : Prop :=
 ∀ j oj, ops[j]? = some oj → listed.getD j false = true → ∀ e ∈ oj.after, Region.binds md e = true → listed.getD e.on false = true
theorem Region.closedB_spec {listed : Array Bool} (h : Region.closedB md ops listed = true) : ListedClosed md ops listed := by
 intro j oj hj hl e he hb
 have hlt : j < ops.size := (Array.getElem?_eq_some_iff.1 hj).1
 have h1 := List.all_eq_true.1 h j (List.mem_range.2 hlt)
 simp only [hl, hj, Bool.not_true, Bool.false_or] at h1
 have h2 := Array.all_eq_true_iff_forall_mem.1 h1 e he
 simpa [hb] using h2
theorem ListedClosed.set {listed : Array Bool} {i : Nat} (h : ListedClosed md ops listed) (hi : i ∈ Region.ready md ops listed) : ListedClosed md ops (listed.setIfInBounds i true) := by
 obtain ⟨_, oi, hoi, hall⟩ := mem_ready.1 hi
 intro j oj hj hl e he hb
 by_cases hij : i = j
 ·subst hij
  have : oj = oi := Option.some.inj (hj.symm.trans hoi)
  subst this
  exact getD_set_true (hall e he hb)
 ·rw [getD_set_ne false hij] at hl
  exact getD_set_true (h j oj hj hl e he hb)
theorem Region.reach_listed {listed : Array Bool} {i : Nat} (hc : ListedClosed md ops listed) : ∀ (fuel d : Nat), Region.reachB md ops i fuel d = true → listed.getD d false = true → listed.getD i false = true
 | 0, _, h, _ => by simp [Region.reachB] at h
 | fuel + 1, d, h, hl => by
  unfold Region.reachB at h
  cases ho : ops[d]? with
  | none => rw [ho] at h; simp at h
  | some o =>
   rw [ho] at h
   obtain ⟨e, he, h1⟩ := Array.any_eq_true'.1 h
   simp only [Bool.and_eq_true, Bool.or_eq_true, beq_iff_eq] at h1
   have hle := hc d o ho hl e he h1.1
   rcases h1.2 with h2 | h2
   ·rw [← h2]; exact hle
   ·exact Region.reach_listed hc fuel e.on h2 hle
/-- What waits for i cannot come up before i is listed. -/
theorem Region.reach_not_ready {listed : Array Bool} {i d fuel : Nat} (hc : ListedClosed md ops listed) (hr : Region.reachB md ops i fuel d = true) (hun : listed.getD i true = false) : d ∉ Region.ready md ops listed := by
 intro hd
 obtain ⟨_, o, ho, hall⟩ := mem_ready.1 hd
 have hi : listed.getD i false = true := by
  cases fuel with
  | zero => simp [Region.reachB] at hr
  | succ n =>
   unfold Region.reachB at hr
   rw [ho] at hr
   obtain ⟨e, he, h1⟩ := Array.any_eq_true'.1 hr
   simp only [Bool.and_eq_true, Bool.or_eq_true, beq_iff_eq] at h1
   have hle := hall e he h1.1
   rcases h1.2 with h2 | h2
   ·rw [← h2]; exact hle
   ·exact Region.reach_listed hc n e.on h2 hle
 rcases Nat.lt_or_ge i listed.size with h' | h'
 ·simp [h'] at hun hi
  rw [hun] at hi
  cases hi
 ·simp [Array.getElem?_eq_none h'] at hun
/-- Whatever order is picked from here on, AND 'S' HOLDS BEHIND EVERY OPERATION THAT IS CARRIED OUT, those of ds apart. -/
def wpAnyLast (P : Program) (md : Region.Mode) (ops : Array Oper) (Q : Exit → Act → World → Prop) (S : World → Prop) (ds : List Nat) : Nat → Array Bool → Act → World → Prop
 | 0, listed, a, w => Region.ready md ops listed = [] ∧ Q .normal a w
 | fuel + 1, listed, a, w =>
  (Region.ready md ops listed = [] → Q .normal a w) ∧
  ∀ i ∈ Region.ready md ops listed, wpOp P ops Q i (fun a' w' => (i ∉ ds → S w → S w') ∧ wpAnyLast P md ops Q S ds fuel (listed.setIfInBounds i true) a' w') a w
theorem wpAny_of_last : ∀ (fuel : Nat) (listed : Array Bool) (a : Act) (w : World), wpAnyLast P md ops Q S ds fuel listed a w → wpAny P md ops Q fuel listed a w
 | 0, _, _, _, h => h
 | fuel + 1, _, _, _, h => ⟨h.1, fun i hi => wpOp_mono (fun a' w' h' => wpAny_of_last fuel _ a' w' h'.2) (h.2 i hi)⟩
theorem wpAnyLast_first {i : Nat} {oi : Oper} {v : Value} (hi : ops[i]? = some oi) (hsel : ∀ (j : Nat) (o : Oper) cs b, ops[j]? = some o → o.op ≠ .select cs b)
  (hQ : ∀ c a w, Q (.panic c) (a.put oi.dst v) w → Q (.panic c) a w) (n : Nat) :
  ∀ (fuel : Nat) (listed : Array Bool) (a : Act) (w : World),
   (∀ j oj, ops[j]? = some oj → j ≠ i → listed.getD j true = false → (∀ e ∈ oj.after, Region.binds md e = true → e.on ≠ i) → oi.apart ops oj = true) →
   ListedClosed md ops listed → (∀ d ∈ ds, listed.getD d true = false → Region.reachB md ops i n d = true) →
   i ∈ Region.ready md ops listed → YieldsIf P ops S oi v a → S w →
   wpAnyLast P md ops Q S ds fuel (listed.setIfInBounds i true) (a.put oi.dst v) w → wpAnyLast P md ops Q S ds (fuel + 1) listed a w := by
 intro fuel
 induction fuel with
 | zero =>
  intro listed a w _ _ _ hr hy hS H
  refine ⟨fun h => (by rw [h] at hr; cases hr), fun j hj => ?_⟩
  by_cases hji : j = i
  ·subst hji; exact hy.wpOp hi hS ⟨fun _ h => h, H⟩
  ·have := ready_mono hj hji
   rw [H.1] at this
   cases this
 | succ fuel ih =>
  intro listed a w hfree hc hd hr hy hS H
  refine ⟨fun h => (by rw [h] at hr; cases hr), fun j hj => ?_⟩
  by_cases hji : j = i
  ·subst hji; exact hy.wpOp hi hS ⟨fun _ h => h, H⟩
  ·have h1 := H.2 j (ready_mono hj hji)
   obtain ⟨hjun, oj, hoj, hall⟩ := mem_ready.1 hj
   have hiun := (mem_ready.1 hr).1
   have hnot : ∀ e ∈ oj.after, Region.binds md e = true → e.on ≠ i := fun e he hb heq => by
    have h1 := hall e he hb
    rw [heq] at h1
    rcases Nat.lt_or_ge i listed.size with h' | h'
    ·simp [h'] at hiun h1; rw [hiun] at h1; cases h1
    ·simp [Array.getElem?_eq_none h'] at h1
   have hjd : j ∉ ds := fun hm => Region.reach_not_ready hc (hd j hm hjun) hiun hj
   have h2 := wpOp_putIf hoj (hfree j oj hoj hji hjun hnot) (fun cs b => hsel i oi cs b hi) (fun cs b => hsel j oj cs b hoj) hQ hy h1
   have hfree' : ∀ k ok, ops[k]? = some ok → k ≠ i → (listed.setIfInBounds j true).getD k true = false →
     (∀ e ∈ ok.after, Region.binds md e = true → e.on ≠ i) → oi.apart ops ok = true := fun k ok hk hki hun hno => by
    refine hfree k ok hk hki ?_ hno
    by_cases hjk : j = k
    ·subst hjk; exact hjun
    ·rw [getD_set_ne true hjk] at hun; exact hun
   have hd' : ∀ d ∈ ds, (listed.setIfInBounds j true).getD d true = false → Region.reachB md ops i n d = true := fun d hm hun => by
    refine hd d hm ?_
    by_cases hjk : j = d
    ·subst hjk; exact hjun
    ·rw [getD_set_ne true hjk] at hun; exact hun
   refine wpOp_mono (fun a' w' h3 => ⟨h3.2.1, ih (listed.setIfInBounds j true) a' w' hfree' (hc.set hj) hd' (ready_mono hr (Ne.symm hji)) h3.1 (h3.2.1 hjd hS) ?_⟩) h2
   rw [Array.setIfInBounds_comm _ _ hji]
   exact h3.2.2
/-- Take number 'i' first, which yields whatever the world: no S is asked for, nor that anything waits for it. -/
theorem wpAnyLast_any {i : Nat} {oi : Oper} {v : Value} (hi : ops[i]? = some oi) (hsel : ∀ (j : Nat) (o : Oper) cs b, ops[j]? = some o → o.op ≠ .select cs b)
  (hQ : ∀ c a w, Q (.panic c) (a.put oi.dst v) w → Q (.panic c) a w) :
  ∀ (fuel : Nat) (listed : Array Bool) (a : Act) (w : World),
   (∀ j oj, ops[j]? = some oj → j ≠ i → listed.getD j true = false → (∀ e ∈ oj.after, Region.binds md e = true → e.on ≠ i) → oi.apart ops oj = true) →
   i ∈ Region.ready md ops listed → Yields P ops oi v a →
   wpAnyLast P md ops Q S ds fuel (listed.setIfInBounds i true) (a.put oi.dst v) w → wpAnyLast P md ops Q S ds (fuel + 1) listed a w := by
 intro fuel
 induction fuel with
 | zero =>
  intro listed a w _ hr hy H
  refine ⟨fun h => (by rw [h] at hr; cases hr), fun j hj => ?_⟩
  by_cases hji : j = i
  ·subst hji; exact (hy.yieldsIf (S := fun _ => True)).wpOp hi trivial ⟨fun _ h => h, H⟩
  ·have := ready_mono hj hji
   rw [H.1] at this
   cases this
 | succ fuel ih =>
  intro listed a w hfree hr hy H
  refine ⟨fun h => (by rw [h] at hr; cases hr), fun j hj => ?_⟩
  by_cases hji : j = i
  ·subst hji; exact (hy.yieldsIf (S := fun _ => True)).wpOp hi trivial ⟨fun _ h => h, H⟩
  ·have h1 := H.2 j (ready_mono hj hji)
   obtain ⟨hjun, oj, hoj, hall⟩ := mem_ready.1 hj
   have hiun := (mem_ready.1 hr).1
   have hnot : ∀ e ∈ oj.after, Region.binds md e = true → e.on ≠ i := fun e he hb heq => by
    have h1 := hall e he hb
    rw [heq] at h1
    rcases Nat.lt_or_ge i listed.size with h' | h'
    ·simp [h'] at hiun h1; rw [hiun] at h1; cases h1
    ·simp [Array.getElem?_eq_none h'] at h1
   have h2 := wpOp_put hoj (hfree j oj hoj hji hjun hnot) (fun cs b => hsel i oi cs b hi) (fun cs b => hsel j oj cs b hoj) hQ hy h1
   have hfree' : ∀ k ok, ops[k]? = some ok → k ≠ i → (listed.setIfInBounds j true).getD k true = false →
     (∀ e ∈ ok.after, Region.binds md e = true → e.on ≠ i) → oi.apart ops ok = true := fun k ok hk hki hun hno => by
    refine hfree k ok hk hki ?_ hno
    by_cases hjk : j = k
    ·subst hjk; exact hjun
    ·rw [getD_set_ne true hjk] at hun; exact hun
   refine wpOp_mono (fun a' w' h3 => ⟨h3.2.1, ih (listed.setIfInBounds j true) a' w' hfree' (ready_mono hr (Ne.symm hji)) h3.1 ?_⟩) h2
   rw [Array.setIfInBounds_comm _ _ hji]
   exact h3.2.2
/-- Take number 'i' first. -/
theorem wpAnyLast_take {i : Nat} {oi : Oper} {v : Value} {fuel : Nat} {listed : Array Bool} {a : Act} {w : World} (hi : ops[i]? = some oi)
  (hs : Region.noSelect ops = true) (hf : Region.free md ops listed i = true) (hr : (Region.ready md ops listed).contains i = true)
  (hc : Region.closedB md ops listed = true) (hl : Region.lastB md ops listed ds i = true)
  (hQ : ∀ c a w, Q (.panic c) (a.put oi.dst v) w → Q (.panic c) a w) (hy : YieldsIf P ops S oi v a) (hS : S w)
  (h : wpAnyLast P md ops Q S ds fuel (listed.setIfInBounds i true) (a.put oi.dst v) w) : wpAnyLast P md ops Q S ds (fuel + 1) listed a w :=
 wpAnyLast_first hi (Region.noSelect_spec hs) hQ ops.size fuel listed a w (Region.free_spec hi hf) (Region.closedB_spec hc)
  (fun d hm hun => by have := List.all_eq_true.1 hl d hm; rw [hun] at this; simpa using this) (by simpa using hr) hy hS h
theorem wpAnyLast_all {rs : List Nat} {fuel : Nat} {listed : Array Bool} {a : Act} {w : World} (hr : Region.ready md ops listed = rs) (hne : rs ≠ [])
  (h : ∀ i ∈ rs, wpOp P ops Q i (fun a' w' => (i ∉ ds → S w → S w') ∧ wpAnyLast P md ops Q S ds fuel (listed.setIfInBounds i true) a' w') a w) : wpAnyLast P md ops Q S ds (fuel + 1) listed a w :=
 ⟨fun h0 => absurd (hr ▸ h0) hne, hr ▸ h⟩
theorem wpAnyLast_done {listed : Array Bool} {a : Act} {w : World} (hr : Region.ready md ops listed = []) (h : Q .normal a w) :
  ∀ fuel, wpAnyLast P md ops Q S ds fuel listed a w
 | 0 => ⟨hr, h⟩
 | _ + 1 => ⟨fun _ => h, by rw [hr]; simp⟩
theorem wp_region_last {id : Nat} {a : Act} {w : World} (hm : P.follows .mixedOrders = true)
  (h : wpAnyLast P .any ops Q S ds ops.size (Array.replicate ops.size false) a { w with drawn := w.drawn + 1 }) : (Code.region id ops true).wp P Q a w :=
 wp_region_any hm (wpAny_of_last _ _ _ _ h)
end
section
variable {P : Program} {ops : Array Oper} {Q : Exit → Act → World → Prop} {md : Region.Mode} {S : World → Prop} {ds : List Nat}
def AllReadyL (P : Program) (md : Region.Mode) (ops : Array Oper) (Q : Exit → Act → World → Prop) (S : World → Prop) (ds : List Nat) (fuel : Nat) (listed : Array Bool) (a : Act) (w : World) (rs : List Nat) : Prop :=
 ∀ i ∈ rs, wpOp P ops Q i (fun a' w' => (i ∉ ds → S w → S w') ∧ wpAnyLast P md ops Q S ds fuel (listed.setIfInBounds i true) a' w') a w
theorem AllReadyL.nil {fuel : Nat} {listed : Array Bool} {a : Act} {w : World} : AllReadyL P md ops Q S ds fuel listed a w [] := fun _ h => by cases h
theorem AllReadyL.cons {fuel : Nat} {listed : Array Bool} {a : Act} {w : World} {i : Nat} {o : Oper} {rs : List Nat} (ho : ops[i]? = some o) (hd : i ∉ ds)
  (h : ∀ K' : Act → World → Prop, Shut (∀ a w, S w → (S w → wpAnyLast P md ops Q S ds fuel (listed.setIfInBounds i true) a w) → K' a w) → if Region.wanted o (yielded ops a.tmps) = true then Oper.wp P o a w K' Q else K' (a.put o.dst undef) w)
  (hs : AllReadyL P md ops Q S ds fuel listed a w rs) : AllReadyL P md ops Q S ds fuel listed a w (i :: rs) := fun j hj => by
 rcases List.mem_cons.1 hj with rfl | hj
 ·exact wpOp_step ho (fun K' hK => h K' (fun a w hS hW => hK a w ⟨fun _ _ => hS, hW hS⟩))
 ·exact hs j hj
/-- Behind an operation of ds nothing is shown. -/
theorem AllReadyL.cons_last {fuel : Nat} {listed : Array Bool} {a : Act} {w : World} {i : Nat} {o : Oper} {rs : List Nat} (ho : ops[i]? = some o) (hd : i ∈ ds)
  (h : ∀ K' : Act → World → Prop, Shut (∀ a w, wpAnyLast P md ops Q S ds fuel (listed.setIfInBounds i true) a w → K' a w) → if Region.wanted o (yielded ops a.tmps) = true then Oper.wp P o a w K' Q else K' (a.put o.dst undef) w)
  (hs : AllReadyL P md ops Q S ds fuel listed a w rs) : AllReadyL P md ops Q S ds fuel listed a w (i :: rs) := fun j hj => by
 rcases List.mem_cons.1 hj with rfl | hj
 ·exact wpOp_step ho (fun K' hK => h K' (fun a w hW => hK a w ⟨fun hn => absurd hd hn, hW⟩))
 ·exact hs j hj
theorem wpAnyLast_ready {rs : List Nat} {fuel : Nat} {listed : Array Bool} {a : Act} {w : World} (hr : Region.ready md ops listed = rs) (hne : rs ≠ [])
  (h : AllReadyL P md ops Q S ds fuel listed a w rs) : wpAnyLast P md ops Q S ds (fuel + 1) listed a w := wpAnyLast_all hr hne h
/-- THE SAME STEPS WITH WHAT HAS COME UP WRITTEN OUT (a literal array of Bools) and one check a step: quicker, and what is printed stays short. -/
theorem start_ {id n : Nat} {a : Act} {w : World} (l : Array Bool) (hm : P.follows .mixedOrders = true) (hn : ops.size = n) (hl : Array.replicate n false = l) (hS : S w.drew)
  (h : S w.drew → wpAnyLast P .any ops Q S ds n l a w.drew) : (Code.region id ops true).wp P Q a w := by
 subst hn
 subst hl
 exact wp_region_last hm (h hS)
def takeB (md : Region.Mode) (ops : Array Oper) (ds : List Nat) (l l' : Array Bool) (i : Nat) : Bool :=
 Region.noSelect ops && Region.free md ops l i && (Region.ready md ops l).contains i && Region.closedB md ops l && Region.lastB md ops l ds i && (l.setIfInBounds i true == l')
theorem take_ {i : Nat} {N : Option Tmp} {oi : Oper} {v : Value} {fuel : Nat} {l : Array Bool} {a : Act} {w : World} (l' : Array Bool) (hi : ops[i]? = some oi) (hN : oi.dst = N) (hc : takeB md ops ds l l' i = true)
  (hQ : ∀ c a w, Q (.panic c) (a.put oi.dst v) w → Q (.panic c) a w) (hy : YieldsIf P ops S oi v a) (hS : S w) {a' : Act} (ha : a.put N v = a')
  (h : wpAnyLast P md ops Q S ds fuel l' a' w) : wpAnyLast P md ops Q S ds (fuel + 1) l a w := by
 subst ha
 subst hN
 simp only [takeB, Bool.and_eq_true, beq_iff_eq] at hc
 obtain ⟨⟨⟨⟨⟨h1, h2⟩, h3⟩, h4⟩, h5⟩, h6⟩ := hc
 subst h6
 exact wpAnyLast_take hi h1 h2 h3 h4 h5 hQ hy hS h
def anyB (md : Region.Mode) (ops : Array Oper) (l l' : Array Bool) (i : Nat) : Bool :=
 Region.noSelect ops && Region.free md ops l i && (Region.ready md ops l).contains i && (l.setIfInBounds i true == l')
/-- An operation that yields in every world (a move, a number, an address): taken first wherever it may come up, behind a store too. -/
theorem pure_ {i : Nat} {N : Option Tmp} {oi : Oper} {v : Value} {fuel : Nat} {l : Array Bool} {a : Act} {w : World} (l' : Array Bool) (hi : ops[i]? = some oi) (hN : oi.dst = N) (hc : anyB md ops l l' i = true)
  (hQ : ∀ c a w, Q (.panic c) (a.put oi.dst v) w → Q (.panic c) a w) (hy : Yields P ops oi v a) {a' : Act} (ha : a.put N v = a')
  (h : wpAnyLast P md ops Q S ds fuel l' a' w) : wpAnyLast P md ops Q S ds (fuel + 1) l a w := by
 subst ha
 subst hN
 simp only [anyB, Bool.and_eq_true, beq_iff_eq] at hc
 obtain ⟨⟨⟨h1, h2⟩, h3⟩, h6⟩ := hc
 subst h6
 exact wpAnyLast_any hi (Region.noSelect_spec h1) hQ fuel l a w (Region.free_spec hi h2) (by simpa using h3) hy h
def readyB (md : Region.Mode) (ops : Array Oper) (l l' : Array Bool) (i : Nat) : Bool := (Region.ready md ops l == [i]) && (l.setIfInBounds i true == l')
/-- One operation alone may come up now (a call, a build, an append ..): it is run, S is shown behind it. -/
theorem one_ {i : Nat} {N : Option Tmp} {oi : Oper} {fuel : Nat} {l : Array Bool} {a : Act} {w : World} (l' : Array Bool) (hi : ops[i]? = some oi) (hN : oi.dst = N) (hc : readyB md ops l l' i = true) (hd : i ∉ ds)
  (h : ∀ K : Act → World → Prop, Shut (∀ a' w', S w' → (S w' → wpAnyLast P md ops Q S ds fuel l' a' w') → K a' w') → if Region.wanted oi (yielded ops a.tmps) = true then Oper.wp P oi a w K Q else K (a.put N undef) w) :
  wpAnyLast P md ops Q S ds (fuel + 1) l a w := by
 subst hN
 simp only [readyB, Bool.and_eq_true, beq_iff_eq] at hc
 obtain ⟨h1, h2⟩ := hc
 subst h2
 exact wpAnyLast_ready h1 (by simp) (AllReadyL.cons hi hd (fun K hK => h K hK) AllReadyL.nil)
/-- The same for one of ds: nothing is shown behind it. -/
theorem last_ {i : Nat} {N : Option Tmp} {oi : Oper} {fuel : Nat} {l : Array Bool} {a : Act} {w : World} (l' : Array Bool) (hi : ops[i]? = some oi) (hN : oi.dst = N) (hc : readyB md ops l l' i = true) (hd : i ∈ ds)
  (h : ∀ K : Act → World → Prop, Shut (∀ a' w', wpAnyLast P md ops Q S ds fuel l' a' w' → K a' w') → if Region.wanted oi (yielded ops a.tmps) = true then Oper.wp P oi a w K Q else K (a.put N undef) w) :
  wpAnyLast P md ops Q S ds (fuel + 1) l a w := by
 subst hN
 simp only [readyB, Bool.and_eq_true, beq_iff_eq] at hc
 obtain ⟨h1, h2⟩ := hc
 subst h2
 exact wpAnyLast_ready h1 (by simp) (AllReadyL.cons_last hi hd (fun K hK => h K hK) AllReadyL.nil)
theorem done_ {l : Array Bool} {a : Act} {w : World} {n : Nat} (hr : (Region.ready md ops l == []) = true) (h : Q .normal a w) : wpAnyLast P md ops Q S ds n l a w := wpAnyLast_done (by simpa using hr) h n
/-! ### Several operations that write or call may come up: each order is walked, what follows is shown once (join_) -/
theorem two_ {i j : Nat} {Ni Nj : Option Tmp} {oi oj : Oper} {fuel : Nat} {l : Array Bool} {a : Act} {w : World} (li lj : Array Bool) (hi : ops[i]? = some oi) (hj : ops[j]? = some oj) (hNi : oi.dst = Ni) (hNj : oj.dst = Nj)
  (hc : (Region.ready md ops l == [i, j] && l.setIfInBounds i true == li && l.setIfInBounds j true == lj) = true) (hdi : i ∉ ds) (hdj : j ∉ ds)
  (h1 : ∀ K : Act → World → Prop, Shut (∀ a' w', S w' → (S w' → wpAnyLast P md ops Q S ds fuel li a' w') → K a' w') → if Region.wanted oi (yielded ops a.tmps) = true then Oper.wp P oi a w K Q else K (a.put Ni undef) w)
  (h2 : ∀ K : Act → World → Prop, Shut (∀ a' w', S w' → (S w' → wpAnyLast P md ops Q S ds fuel lj a' w') → K a' w') → if Region.wanted oj (yielded ops a.tmps) = true then Oper.wp P oj a w K Q else K (a.put Nj undef) w) :
  wpAnyLast P md ops Q S ds (fuel + 1) l a w := by
 subst hNi
 subst hNj
 simp only [Bool.and_eq_true, beq_iff_eq] at hc
 obtain ⟨⟨h3, h4⟩, h5⟩ := hc
 subst h4
 subst h5
 exact wpAnyLast_ready h3 (by simp) (AllReadyL.cons hi hdi (fun K hK => h1 K hK) (AllReadyL.cons hj hdj (fun K hK => h2 K hK) AllReadyL.nil))
/-- The act with some destinations filled. -/
def putAll : Act → List (Tmp × Value) → Act
 | a, [] => a
 | a, (n, v) :: r => putAll (a.put (some n) v) r
/-- What follows, once: s the values that the orders leave, F what is known of them and of the world. -/
theorem join_ {σ : Type} {fuel : Nat} {l : Array Bool} {a : Act} {w : World} (fuel' : Nat) (l' : Array Bool) (ns : σ → List (Tmp × Value)) (F : σ → World → Prop)
  (hcont : ∀ s w', F s w' → wpAnyLast P md ops Q S ds fuel' l' (putAll a (ns s)) w')
  (h : (∀ s w', F s w' → wpAnyLast P md ops Q S ds fuel' l' (putAll a (ns s)) w') → wpAnyLast P md ops Q S ds fuel l a w) : wpAnyLast P md ops Q S ds fuel l a w := h hcont
/-- The act written out. -/
theorem norm_ {fuel : Nat} {l : Array Bool} {a a' : Act} {w : World} (ha : a = a') (h : wpAnyLast P md ops Q S ds fuel l a' w) : wpAnyLast P md ops Q S ds fuel l a w := by
 subst ha
 exact h
/-- A call of a Go function, by its contract. -/
theorem call_ {oi : Oper} {N : Option Tmp} {a : Act} {w : World} {K : Act → World → Prop} (f : FuncId) (args : Array Value) (hw : Region.wanted oi (yielded ops a.tmps) = true) (hN : oi.dst = N) (hrun : (execOp a.eval oi).run P w = .ok (.enter f args) w)
  (h : Calls P f args w fun e w' => ∃ v, e = .returned v ∧ K (a.put N v) w') : if Region.wanted oi (yielded ops a.tmps) = true then Oper.wp P oi a w K Q else K (a.put N undef) w := by
 rw [if_pos hw]
 subst hN
 unfold Oper.wp
 rw [hrun, Oper.upon_enter]
 refine h.mono fun e w'' hh => ?_
 obtain ⟨v, rfl, hk⟩ := hh
 exact hk
theorem enters_ {f : FuncId} {fn : Func} (hf : P.funcs[f]? = some fn) (hname : (fn.name == "runtime.NumGoroutine") = false) (hb : fn.body.isSome = true) (args : Array Value) (w : World) : (callFunc f args).run P w = .ok (.enter f args) w := by
 have h1 : fn.name ≠ "runtime.NumGoroutine" := by simpa using hname
 obtain ⟨c, hc⟩ := Option.isSome_iff_exists.1 hb
 simp [callFunc, hf, h1, hc]
/-- The same, the operation's run shown here: 'goes_ A.func3 (by kernel_rfl) rfl #[..] (by rfl) rfl rfl (by rfl) ?_'. -/
theorem goes_ {oi : Oper} {N : Option Tmp} {a : Act} {w : World} {K : Act → World → Prop} {f : FuncId} {fn : Func} {as9 : Array Operand} {ts : Array TypeId} (hf : P.funcs[f]? = some fn) (hname : (fn.name == "runtime.NumGoroutine") = false) (hb : fn.body.isSome = true) (args : Array Value)
  (hw : Region.wanted oi (yielded ops a.tmps) = true) (hN : oi.dst = N) (hop : oi.op = .call { callee := .value (.func f), args := as9, argTypes := ts }) (hargs : as9.map a.eval = args)
  (h : Calls P f args w fun e w' => ∃ v, e = .returned v ∧ K (a.put N v) w') : if Region.wanted oi (yielded ops a.tmps) = true then Oper.wp P oi a w K Q else K (a.put N undef) w := by
 refine call_ f args hw hN ?_ h
 have he := enters_ hf hname hb args w
 unfold execOp
 simp [hop, resolve, Deferred.ofValue, invoke, Act.eval, hargs, he]
/-- A call in a plain region, as9 an arm of go_wp2_with ('hd' first: it fails at once at another operation). -/
theorem goesL_ {rest : List Oper} {oi : Oper} {a : Act} {w : World} (N : Option Tmp) (hd : oi.dst = N) (hg : oi.guard = none) {f : FuncId} {fn : Func} {as9 : Array Operand} {ts : Array TypeId} (hf : P.funcs[f]? = some fn) (hname : (fn.name == "runtime.NumGoroutine") = false) (hb : fn.body.isSome = true) (args : Array Value)
  (hop : oi.op = .call { callee := .value (.func f), args := as9, argTypes := ts }) (hargs : as9.map a.eval = args)
  (h : Calls P f args w fun e w' => ∃ v, e = .returned v ∧ wpList P ops Q rest (a.put N v) w') : wpList P ops Q (oi :: rest) a w := by
 refine wpList_plain hg fun K hK => ?_
 have he := enters_ hf hname hb args w
 have hrun : (execOp a.eval oi).run P w = .ok (.enter f args) w := by
  unfold execOp
  simp [hop, resolve, Deferred.ofValue, invoke, Act.eval, hargs, he]
 unfold Oper.wp
 rw [hrun, Oper.upon_enter]
 refine h.mono fun e w'' hh => ?_
 obtain ⟨v, rfl, hk⟩ := hh
 subst hd
 exact hK _ _ hk
/-- An operation that yields a value (and may make memory). -/
theorem value_ {oi : Oper} {N : Option Tmp} {a : Act} {w w1 : World} {v : Value} {K : Act → World → Prop} (hw : Region.wanted oi (yielded ops a.tmps) = true) (hN : oi.dst = N) (hrun : (execOp a.eval oi).run P w = .ok (.value v) w1)
  (h : K (a.put N v) w1) : if Region.wanted oi (yielded ops a.tmps) = true then Oper.wp P oi a w K Q else K (a.put N undef) w := by
 rw [if_pos hw]
 subst hN
 unfold Oper.wp
 rw [hrun]
 exact h
/-- A store. -/
theorem skip_ {oi : Oper} {a : Act} {w w1 : World} {K : Act → World → Prop} (hw : Region.wanted oi (yielded ops a.tmps) = true) (hN : oi.dst = none) (hrun : (execOp a.eval oi).run P w = .ok .skip w1)
  (h : K a w1) : if Region.wanted oi (yielded ops a.tmps) = true then Oper.wp P oi a w K Q else K (a.put none undef) w := by
 rw [if_pos hw]
 unfold Oper.wp
 rw [hrun]
 show K (a.put oi.dst undef) w1
 rw [hN]
 exact h
theorem i64_w (n : Int) : IntKind.i64.wrap n = Go.RowKit.wrap64 n := by unfold Go.RowKit.wrap64; exact IntKind.wrap_i64 n
theorem i32_w (n : Int) : IntKind.i32.wrap n = Go.RowKit.wrap32 n := by unfold Go.RowKit.wrap32; exact IntKind.wrap_i32 n
end
end Go.Proofs.YtheheijhijeljaaGreatDoorW.PrintLast
/-! ### 40. Elements whose inner rows lie apart: what is stored into one says nothing of the others.
   S: as9 R, with an owner function f (block to element's index). H: as9 S with a hole: of element i its cells alone are told, its blocks are oki. -/
namespace Go.Proofs.YtheheijhijeljaaGreatDoorW.PrintWords
open Go.RowKit
namespace Kd
section
variable {α β : Type} {d : Kd α} {d' : Kd β} {e e' : Nat} {w w1 W : World} {base b : Nat} {ok ok' okv oku : Nat → Prop} {u v : Value} {xs : List α} {ys : List β}
/-- A row whose elements lead to nothing: its blocks are its own one. -/
theorem R_tight (hE : d.E = []) (h : d.R e w base ok v xs) : d.R e w base (fun k => some k = v.ownBlock) v xs := by
 obtain ⟨h0, inner, ho, hr⟩ := h
 refine ⟨fun k hk => hk.symm, inner, ho, hr.imp_ (fun p c hp => d.M_mono (fun k hk => ?_) (d.M_bound hp))⟩
 obtain ⟨_, _, _, q, hq, _⟩ := hk
 rw [hE] at hq
 cases hq
end
section
variable {α β : Type} {d : Kd α} {d' : Kd β} {e e' g : Nat} {w w1 W : World} {base b : Nat} {ok ok' okv oku : Nat → Prop} {u v : Value} {xs : List α} {ys : List β}
end
/-! #### append, make, literals: the new element's blocks are none of the elder ones' -/
section
open Classical in
variable {P : Program} {ops : Array Oper} {rest : List Oper} {o : Oper} {a : Act} {Q : Exit → Act → World → Prop} {Kc : Act → World → Prop} {α : Type}
end
/-! #### a row with a hole: element i is lent, its blocks are oki; of it the row says its cells alone -/
/-- Element i is these cells; the others are d's. -/
def gap {α : Type} (f : Nat → Nat) (d : Kd α) (i : Nat) (c : List Value) : Kd (α × Nat) where
 sz := d.sz
 E := d.E
 K := fun w x cs => (x.2 = i → cs = c ∧ cs.length = d.sz ∧ ∀ u ∈ cs, u.oneCell' = true) ∧ (x.2 ≠ i → d.K w x.1 cs)
 M := fun w base ok x cs => (x.2 = i → cs = c ∧ cs.length = d.sz ∧ ∀ u ∈ cs, u.oneCell' = true) ∧ (x.2 ≠ i → d.M w base (fun k => ok k ∧ f k = x.2) x.1 cs)
 K_len := fun {w x cs} h => by
  by_cases hx : x.2 = i
  ·exact (h.1 hx).2.1
  ·exact d.K_len (h.2 hx)
 K_one := fun {w x cs} h => by
  by_cases hx : x.2 = i
  ·exact (h.1 hx).2.2
  ·exact d.K_one (h.2 hx)
 K_below := fun hb h => ⟨h.1, fun hx => d.K_below hb (h.2 hx)⟩
 K_of_M := fun h => ⟨h.1, fun hx => d.K_of_M (h.2 hx)⟩
 M_mono := fun hok h => ⟨h.1, fun hx => d.M_mono (fun k hk => ⟨hok k hk.1, hk.2⟩) (h.2 hx)⟩
 M_bound := fun h => ⟨h.1, fun hx => d.M_mono (fun _ hk => ⟨⟨hk.1.1, hk.2⟩, hk.1.2⟩) (d.M_bound (h.2 hx))⟩
 M_move := fun hm h => ⟨h.1, fun hx => d.M_move (fun k hk => hm k hk.1) (h.2 hx)⟩
 M_lower := fun hb h => ⟨h.1, fun hx => d.M_lower hb (h.2 hx)⟩
def H {α : Type} (d : Kd α) (e : Nat) (w : World) (base : Nat) (ok : Nat → Prop) (v : Value) (xs : List α) (i : Int) (oki : Nat → Prop) (c : List Value) : Prop :=
 (∀ k, oki k → ok k) ∧ ∃ f, (gap f d i.toNat c).R e w base (fun k => ok k ∧ ¬ oki k) v xs.zipIdx
section
variable {α β : Type} {d : Kd α} {e e' g n cap : Nat} {w w1 W : World} {base : Nat} {ok ok' oki okp : Nat → Prop} {u v : Value} {xs : List α} {i : Int} {c : List Value}
open Classical in
end
section
variable {P : Program} {ops : Array Oper} {rest : List Oper} {o : Oper} {a : Act} {Q : Exit → Act → World → Prop} {α : Type}
end
end Kd
end Go.Proofs.YtheheijhijeljaaGreatDoorW.PrintWords
/-! ### 45. What a call keeps: all but the blocks of S (the rows that it was given to write) and what is new since -/
namespace Go.Proofs.YtheheijhijeljaaGreatDoorW.PrintWords
open Go.RowKit
def Kept (w W : World) (S : Nat → Prop) : Prop := w.heap.size ≤ W.heap.size ∧ ∀ i, i < w.heap.size → ¬ S i → W.heap[i]? = w.heap[i]?
section
variable {w W W2 : World} {S S2 S' : Nat → Prop}
theorem Kept.refl (w : World) (S : Nat → Prop) : Kept w w S := ⟨Nat.le_refl _, fun _ _ _ => rfl⟩
theorem Kept.then_ (h : Kept w W S) (k : Kept W W2 S2) (hs : ∀ k, S2 k → S k ∨ w.heap.size ≤ k) : Kept w W2 S :=
 ⟨Nat.le_trans h.1 k.1, fun i hi hn => (k.2 i (Nat.lt_of_lt_of_le hi h.1) (fun h2 => (hs i h2).elim hn (fun h3 => by omega))).trans (h.2 i hi hn)⟩
theorem Kept.of_grown {row : Option Nat} (hg : W.grownBy W2 row) (h : Kept w W S) (hr : ∀ k, row = some k → S k ∨ w.heap.size ≤ k) : Kept w W2 S :=
 h.then_ (S2 := fun k => row = some k) ⟨hg.size, fun i hi hn => hg.block i hi (fun he => hn he.symm)⟩ hr
theorem Kept.drewN (h : Kept w W S) (m : Nat) : Kept w (W.drewN m) S := h
theorem Kept.setCell (h : Kept w W S) {p : Addr} (hp : S p.block ∨ w.heap.size ≤ p.block) (u : Value) : Kept w (W.setCell p u) S :=
 h.then_ (S2 := fun k => k = p.block) ⟨by simp [World.setCell], fun i _ hn => Below.heap_setCell W p u i hn⟩ (fun k hk => by rw [hk]; exact hp)
end
namespace Kd
section
variable {α : Type} {d : Kd α} {e base n c : Nat} {ok oki S S2 : Nat → Prop} {w w0 W W1 W2 : World} {v : Value} {A : Option Addr} {xs : List α} {i : Int} {cs : List Value}
theorem R_kept (h : d.R e W base ok v xs) (hk : Kept W W2 S) (hne : ∀ k, ok k → ¬ S k) : d.R e W2 base ok v xs := R_step h (fun k ho hlt => hk.2 k hlt (hne k ho))
end
end Kd
end Go.Proofs.YtheheijhijeljaaGreatDoorW.PrintWords
/-
 DERIVED: THE SHELF's CONTRACTS AT THIS DUMP, IN PLAIN WORDS (tools/lay-plain.mjs out of 'YtheheijhijeljaaGreatDoorXShelfS.lean', which tools/lay-shelf.mjs wrote): THE SAME DECLARATIONS UNDER THE SAME NAMES: 'import', 'namespace', 'open', 'def', 'theorem' AND NOTHING ELSE: no command of the shelf's: FOR A HAND-IN. Each laying: the table of numbers ('.._ren') and one theorem, a field a fact of the dump's own or the kernel's comparison; each contract: ONE APPLICATION.
-/
namespace Go.Proofs
open Go.Shelf
def Tryz.lay_sortFuncRange_ren : Go.Shelf.Ren := ⟨fun | 6 => 40 | 15 => 77 | 14 => 76 | 28 => 113 | 29 => 114 | 20 => 105 | 21 => 106 | 22 => 107 | 23 => 108 | 24 => 109 | 25 => 110 | 26 => 111 | 27 => 112 | 46 => 125 | 47 => 126 | 48 => 127 | 49 => 128 | 50 => 129 | 57 => 144 | n => n, fun | 22 => 26 | 24 => 36 | 25 => 56 | 3 => 3 | 39 => 73 | 0 => 0 | 53 => 126 | 55 => 128 | 4 => 4 | 46 => 119 | 45 => 118 | 50 => 123 | 5 => 5 | 9 => 9 | 66 => 136 | 70 => 140 | 76 => 148 | 77 => 112 | n => n, fun | n => n⟩
theorem Tryz.lay_sortFuncRange : Go.Proofs.SlLaysF0.n6 Tryz.prog Tryz.lay_sortFuncRange_ren := {
 mixed := by kernel_rfl
 f6 := ⟨Tryz.f40.name, by decide, Tryz.func40.trans (congrArg some (by kernel_rfl))⟩
 f14 := ⟨Tryz.f76.name, by decide, Tryz.func76.trans (congrArg some (by kernel_rfl))⟩
 f15 := Tryz.func77.trans (congrArg some (by kernel_rfl))
 f20 := ⟨Tryz.f105.name, by decide, Tryz.func105.trans (congrArg some (by kernel_rfl))⟩
 f21 := ⟨Tryz.f106.name, by decide, Tryz.func106.trans (congrArg some (by kernel_rfl))⟩
 f22 := ⟨Tryz.f107.name, by decide, Tryz.func107.trans (congrArg some (by kernel_rfl))⟩
 f23 := ⟨Tryz.f108.name, by decide, Tryz.func108.trans (congrArg some (by kernel_rfl))⟩
 f24 := ⟨Tryz.f109.name, by decide, Tryz.func109.trans (congrArg some (by kernel_rfl))⟩
 f25 := ⟨Tryz.f110.name, by decide, Tryz.func110.trans (congrArg some (by kernel_rfl))⟩
 f26 := ⟨Tryz.f111.name, by decide, Tryz.func111.trans (congrArg some (by kernel_rfl))⟩
 f27 := ⟨Tryz.f112.name, by decide, Tryz.func112.trans (congrArg some (by kernel_rfl))⟩
 f28 := Tryz.func113.trans (congrArg some (by kernel_rfl))
 f29 := Tryz.func114.trans (congrArg some (by kernel_rfl))
 f46 := ⟨Tryz.f125.name, by decide, Tryz.func125.trans (congrArg some (by kernel_rfl))⟩
 f47 := Tryz.func126.trans (congrArg some (by kernel_rfl))
 f48 := Tryz.func127.trans (congrArg some (by kernel_rfl))
 f49 := ⟨Tryz.f128.name, by decide, Tryz.func128.trans (congrArg some (by kernel_rfl))⟩
 f50 := ⟨Tryz.f129.name, by decide, Tryz.func129.trans (congrArg some (by kernel_rfl))⟩
 f57 := ⟨Tryz.f144.name, by decide, Tryz.func144.trans (congrArg some (by kernel_rfl))⟩
 t0 := Tryz.underlying0
 a0 := Tryz.isAgg0
 z0 := Tryz.sizeOf0
 v0 := Tryz.zeroValue0
 t3 := Tryz.underlying3
 a3 := Tryz.isAgg3
 z3 := Tryz.sizeOf3
 v3 := Tryz.zeroValue3
 t4 := Tryz.underlying4
 a4 := Tryz.isAgg4
 z4 := Tryz.sizeOf4
 v4 := Tryz.zeroValue4
 t5 := Tryz.underlying5
 a5 := Tryz.isAgg5
 z5 := Tryz.sizeOf5
 v5 := Tryz.zeroValue5
 t9 := Tryz.underlying9
 a9 := Tryz.isAgg9
 z9 := Tryz.sizeOf9
 v9 := Tryz.zeroValue9
 t22 := Tryz.underlying26
 a22 := Tryz.isAgg26
 z22 := Tryz.sizeOf26
 v22 := Tryz.zeroValue26
 t25 := Tryz.underlying56
 a25 := Tryz.isAgg56
 z25 := Tryz.sizeOf56
 v25 := Tryz.zeroValue56
 t39 := Tryz.underlying73
 a39 := Tryz.isAgg73
 z39 := Tryz.sizeOf73
 v39 := Tryz.zeroValue73
 t45 := Tryz.underlying118
 a45 := Tryz.isAgg118
 z45 := Tryz.sizeOf118
 v45 := Tryz.zeroValue118
 t46 := Tryz.underlying119
 a46 := Tryz.isAgg119
 z46 := Tryz.sizeOf119
 v46 := Tryz.zeroValue119
 t50 := Tryz.underlying123
 a50 := Tryz.isAgg123
 z50 := Tryz.sizeOf123
 v50 := Tryz.zeroValue123
 t53 := Tryz.underlying126
 a53 := Tryz.isAgg126
 z53 := Tryz.sizeOf126
 v53 := Tryz.zeroValue126
 t55 := Tryz.underlying128
 a55 := Tryz.isAgg128
 z55 := Tryz.sizeOf128
 v55 := Tryz.zeroValue128
 t66 := Tryz.underlying136
 a66 := Tryz.isAgg136
 z66 := Tryz.sizeOf136
 v66 := Tryz.zeroValue136
 t70 := Tryz.underlying140
 a70 := Tryz.isAgg140
 z70 := Tryz.sizeOf140
 v70 := Tryz.zeroValue140
 t76 := Tryz.underlying148
 a76 := Tryz.isAgg148
 z76 := Tryz.sizeOf148
 v76 := Tryz.zeroValue148
 t77 := Tryz.underlying112
 a77 := Tryz.isAgg112
 z77 := Tryz.sizeOf112
 v77 := Tryz.zeroValue112 }
def Tryz.lay_cmpInt_ren : Go.Shelf.Ren := ⟨fun | 5 => 42 | 7 => 78 | n => n, fun | 22 => 3 | 3 => 3 | 4 => 4 | n => n, fun | n => n⟩
theorem Tryz.lay_cmpInt : Go.Proofs.SlLaysC2.n5 Tryz.prog Tryz.lay_cmpInt_ren := {
 mixed := by kernel_rfl
 f5 := ⟨Tryz.f42.name, by decide, Tryz.func42.trans (congrArg some (by kernel_rfl))⟩
 f7 := ⟨Tryz.f78.name, by decide, Tryz.func78.trans (congrArg some (by kernel_rfl))⟩
 t3 := Tryz.underlying3
 a3 := Tryz.isAgg3
 z3 := Tryz.sizeOf3
 v3 := Tryz.zeroValue3
 t4 := Tryz.underlying4
 a4 := Tryz.isAgg4
 z4 := Tryz.sizeOf4
 v4 := Tryz.zeroValue4
 t22 := Tryz.underlying3
 a22 := Tryz.isAgg3
 z22 := Tryz.sizeOf3
 v22 := Tryz.zeroValue3 }
def Tryz.lay_containsFuncRange_ren : Go.Shelf.Ren := ⟨fun | 8 => 82 | 6 => 116 | n => n, fun | 22 => 26 | 23 => 36 | 25 => 101 | 4 => 4 | 3 => 3 | 0 => 0 | n => n, fun | n => n⟩
theorem Tryz.lay_containsFuncRange : Go.Proofs.SlLaysH0.n8 Tryz.prog Tryz.lay_containsFuncRange_ren := {
 mixed := by kernel_rfl
 f6 := ⟨Tryz.f116.name, by decide, Tryz.func116.trans (congrArg some (by kernel_rfl))⟩
 f8 := ⟨Tryz.f82.name, by decide, Tryz.func82.trans (congrArg some (by kernel_rfl))⟩
 t0 := Tryz.underlying0
 a0 := Tryz.isAgg0
 z0 := Tryz.sizeOf0
 v0 := Tryz.zeroValue0
 t3 := Tryz.underlying3
 a3 := Tryz.isAgg3
 z3 := Tryz.sizeOf3
 v3 := Tryz.zeroValue3
 t4 := Tryz.underlying4
 a4 := Tryz.isAgg4
 z4 := Tryz.sizeOf4
 v4 := Tryz.zeroValue4
 t22 := Tryz.underlying26
 a22 := Tryz.isAgg26
 z22 := Tryz.sizeOf26
 v22 := Tryz.zeroValue26
 t25 := Tryz.underlying101
 a25 := Tryz.isAgg101
 z25 := Tryz.sizeOf101
 v25 := Tryz.zeroValue101 }
def Tryz.lay_cloneRange_ren : Go.Shelf.Ren := ⟨fun | 41 => 43 | n => n, fun | 22 => 26 | 23 => 36 | 4 => 4 | n => n, fun | n => n⟩
theorem Tryz.lay_cloneRange : Go.Proofs.SlLaysE0.n41 Tryz.prog Tryz.lay_cloneRange_ren := {
 mixed := by kernel_rfl
 f41 := ⟨Tryz.f43.name, by decide, Tryz.func43.trans (congrArg some (by kernel_rfl))⟩
 t4 := Tryz.underlying4
 a4 := Tryz.isAgg4
 z4 := Tryz.sizeOf4
 v4 := Tryz.zeroValue4
 t22 := Tryz.underlying26
 a22 := Tryz.isAgg26
 z22 := Tryz.sizeOf26
 v22 := Tryz.zeroValue26 }
def Tryz.lay_sortInt_ren : Go.Shelf.Ren := ⟨fun | 5 => 80 | 8 => 77 | 7 => 115 | 19 => 113 | 20 => 114 | 10 => 130 | 11 => 131 | 12 => 132 | 13 => 133 | 14 => 134 | 15 => 135 | 16 => 136 | 17 => 137 | 18 => 138 | 30 => 145 | 31 => 126 | 32 => 127 | 33 => 146 | 34 => 147 | 35 => 78 | 40 => 152 | n => n, fun | 23 => 57 | 25 => 3 | 3 => 3 | 32 => 73 | 22 => 57 | 0 => 0 | 44 => 126 | 46 => 128 | 4 => 4 | 36 => 119 | 35 => 118 | 41 => 123 | 5 => 5 | 9 => 9 | 53 => 136 | 57 => 140 | 63 => 148 | 64 => 112 | n => n, fun | n => n⟩
theorem Tryz.lay_sortInt : Go.Proofs.SlLaysM.n5 Tryz.prog Tryz.lay_sortInt_ren := {
 mixed := by kernel_rfl
 f5 := ⟨Tryz.f80.name, by decide, Tryz.func80.trans (congrArg some (by kernel_rfl))⟩
 f7 := ⟨Tryz.f115.name, by decide, Tryz.func115.trans (congrArg some (by kernel_rfl))⟩
 f8 := Tryz.func77.trans (congrArg some (by kernel_rfl))
 f10 := ⟨Tryz.f130.name, by decide, Tryz.func130.trans (congrArg some (by kernel_rfl))⟩
 f11 := ⟨Tryz.f131.name, by decide, Tryz.func131.trans (congrArg some (by kernel_rfl))⟩
 f12 := ⟨Tryz.f132.name, by decide, Tryz.func132.trans (congrArg some (by kernel_rfl))⟩
 f13 := ⟨Tryz.f133.name, by decide, Tryz.func133.trans (congrArg some (by kernel_rfl))⟩
 f14 := ⟨Tryz.f134.name, by decide, Tryz.func134.trans (congrArg some (by kernel_rfl))⟩
 f15 := ⟨Tryz.f135.name, by decide, Tryz.func135.trans (congrArg some (by kernel_rfl))⟩
 f16 := ⟨Tryz.f136.name, by decide, Tryz.func136.trans (congrArg some (by kernel_rfl))⟩
 f17 := ⟨Tryz.f137.name, by decide, Tryz.func137.trans (congrArg some (by kernel_rfl))⟩
 f18 := ⟨Tryz.f138.name, by decide, Tryz.func138.trans (congrArg some (by kernel_rfl))⟩
 f19 := Tryz.func113.trans (congrArg some (by kernel_rfl))
 f20 := Tryz.func114.trans (congrArg some (by kernel_rfl))
 f30 := ⟨Tryz.f145.name, by decide, Tryz.func145.trans (congrArg some (by kernel_rfl))⟩
 f31 := Tryz.func126.trans (congrArg some (by kernel_rfl))
 f32 := Tryz.func127.trans (congrArg some (by kernel_rfl))
 f33 := ⟨Tryz.f146.name, by decide, Tryz.func146.trans (congrArg some (by kernel_rfl))⟩
 f34 := ⟨Tryz.f147.name, by decide, Tryz.func147.trans (congrArg some (by kernel_rfl))⟩
 f35 := ⟨Tryz.f78.name, by decide, Tryz.func78.trans (congrArg some (by kernel_rfl))⟩
 f40 := ⟨Tryz.f152.name, by decide, Tryz.func152.trans (congrArg some (by kernel_rfl))⟩
 t0 := Tryz.underlying0
 a0 := Tryz.isAgg0
 z0 := Tryz.sizeOf0
 v0 := Tryz.zeroValue0
 t3 := Tryz.underlying3
 a3 := Tryz.isAgg3
 z3 := Tryz.sizeOf3
 v3 := Tryz.zeroValue3
 t4 := Tryz.underlying4
 a4 := Tryz.isAgg4
 z4 := Tryz.sizeOf4
 v4 := Tryz.zeroValue4
 t5 := Tryz.underlying5
 a5 := Tryz.isAgg5
 z5 := Tryz.sizeOf5
 v5 := Tryz.zeroValue5
 t9 := Tryz.underlying9
 a9 := Tryz.isAgg9
 z9 := Tryz.sizeOf9
 v9 := Tryz.zeroValue9
 t22 := Tryz.underlying57
 a22 := Tryz.isAgg57
 z22 := Tryz.sizeOf57
 v22 := Tryz.zeroValue57
 t23 := Tryz.underlying57
 a23 := Tryz.isAgg57
 z23 := Tryz.sizeOf57
 v23 := Tryz.zeroValue57
 t25 := Tryz.underlying3
 a25 := Tryz.isAgg3
 z25 := Tryz.sizeOf3
 v25 := Tryz.zeroValue3
 t32 := Tryz.underlying73
 a32 := Tryz.isAgg73
 z32 := Tryz.sizeOf73
 v32 := Tryz.zeroValue73
 t35 := Tryz.underlying118
 a35 := Tryz.isAgg118
 z35 := Tryz.sizeOf118
 v35 := Tryz.zeroValue118
 t36 := Tryz.underlying119
 a36 := Tryz.isAgg119
 z36 := Tryz.sizeOf119
 v36 := Tryz.zeroValue119
 t41 := Tryz.underlying123
 a41 := Tryz.isAgg123
 z41 := Tryz.sizeOf123
 v41 := Tryz.zeroValue123
 t44 := Tryz.underlying126
 a44 := Tryz.isAgg126
 z44 := Tryz.sizeOf126
 v44 := Tryz.zeroValue126
 t46 := Tryz.underlying128
 a46 := Tryz.isAgg128
 z46 := Tryz.sizeOf128
 v46 := Tryz.zeroValue128
 t53 := Tryz.underlying136
 a53 := Tryz.isAgg136
 z53 := Tryz.sizeOf136
 v53 := Tryz.zeroValue136
 t57 := Tryz.underlying140
 a57 := Tryz.isAgg140
 z57 := Tryz.sizeOf140
 v57 := Tryz.zeroValue140
 t63 := Tryz.underlying148
 a63 := Tryz.isAgg148
 z63 := Tryz.sizeOf148
 v63 := Tryz.zeroValue148
 t64 := Tryz.underlying112
 a64 := Tryz.isAgg112
 z64 := Tryz.sizeOf112
 v64 := Tryz.zeroValue112 }
end Go.Proofs
/-! ### 46. Values that share: what is only read, with the blocks it lies in (its footprint 'ok'): Foot, F (a row that is read), FK (an element's cells) -/
namespace Go.Proofs.YtheheijhijeljaaGreatDoorW.PrintWords
open Go.RowKit
/-- P holds in W and in every world that has W's blocks of ok. -/
def Foot (P : World → Prop) (W : World) (ok : Nat → Prop) : Prop := ∀ W' : World, (∀ k, ok k → k < W.heap.size → W'.heap[k]? = W.heap[k]?) → P W'
theorem heap_lt {W W1 : World} {k : Nat} (h : W1.heap[k]? = W.heap[k]?) (hlt : k < W.heap.size) : k < W1.heap.size := by
 rw [Array.getElem?_eq_getElem hlt] at h
 exact (Array.getElem?_eq_some_iff.1 h).1
namespace Foot
variable {P Q : World → Prop} {W W1 : World} {ok ok' : Nat → Prop}
theorem step (h : Foot P W ok) (hm : ∀ k, ok k → k < W.heap.size → W1.heap[k]? = W.heap[k]?) : Foot P W1 ok := fun W' hW => h W' (fun k hk hlt => (hW k hk (heap_lt (hm k hk hlt) hlt)).trans (hm k hk hlt))
end Foot
namespace Kd
section
variable {α β : Type} {d : Kd α} {e base n n' cc g N : Nat} {ok ok' okp S : Nat → Prop} {w w0 w1 W W1 : World} {A A' : Option Addr} {u v v1 : Value} {xs : List α} {xs' : List β} {d' : Kd β} {x : α} {c : List Value}
end
end Kd
end Go.Proofs.YtheheijhijeljaaGreatDoorW.PrintWords
-- PRINTED WORDS (module Derived/Print/More.lean): go-gate-2's additions: an AI agent of Go's test side, Tue Nov 17 2026; no person has read it. Lean checks it.
namespace Go.Proofs.YtheheijhijeljaaGreatDoorW.PrintMore
open Go.RowKit Go.Proofs.YtheheijhijeljaaGreatDoorW.PrintWords
namespace Kd
open Go.Proofs.YtheheijhijeljaaGreatDoorW.PrintWords.Kd
end Kd
namespace Kd
open Go.Proofs.YtheheijhijeljaaGreatDoorW.PrintWords.Kd
section
variable {α : Type} {d : Kd α} {e base g N : Nat} {ok : Nat → Prop} {W w1 : World} {u v : Value} {xs : List α}
end
end Kd
/-- 'max' and 'min' of two whole numbers. -/
theorem max2_int (k k' : IntKind) (x y : Int) : Builtin.max2 (.int k x) (.int k' y) = pure (.int k (if x < y then y else x)) := by simp only [Builtin.max2, gt_iff_lt]
theorem min2_int (k k' : IntKind) (x y : Int) : Builtin.min2 (.int k x) (.int k' y) = pure (.int k (if y < x then y else x)) := by simp only [Builtin.min2]
theorem max_two (ats : Array TypeId) (ty : TypeId) (a b : Value) : Builtin.max_ ats ty #[a, b] = (Builtin.max2 a b >>= fun s => pure s) := by simp only [Builtin.max_, List.foldlM_cons, List.foldlM_nil]
theorem min_two (ats : Array TypeId) (ty : TypeId) (a b : Value) : Builtin.min_ ats ty #[a, b] = (Builtin.min2 a b >>= fun s => pure s) := by simp only [Builtin.min_, List.foldlM_cons, List.foldlM_nil]
theorem max_three (ats : Array TypeId) (ty : TypeId) (a b c : Value) : Builtin.max_ ats ty #[a, b, c] = (Builtin.max2 a b >>= fun s => Builtin.max2 s c >>= fun s => pure s) := by simp only [Builtin.max_, List.foldlM_cons, List.foldlM_nil]
theorem min_three (ats : Array TypeId) (ty : TypeId) (a b c : Value) : Builtin.min_ ats ty #[a, b, c] = (Builtin.min2 a b >>= fun s => Builtin.min2 s c >>= fun s => pure s) := by simp only [Builtin.min_, List.foldlM_cons, List.foldlM_nil]
theorem max_four (ats : Array TypeId) (ty : TypeId) (a b c d : Value) : Builtin.max_ ats ty #[a, b, c, d] = (Builtin.max2 a b >>= fun s => Builtin.max2 s c >>= fun s => Builtin.max2 s d >>= fun s => pure s) := by simp only [Builtin.max_, List.foldlM_cons, List.foldlM_nil]
theorem min_four (ats : Array TypeId) (ty : TypeId) (a b c d : Value) : Builtin.min_ ats ty #[a, b, c, d] = (Builtin.min2 a b >>= fun s => Builtin.min2 s c >>= fun s => Builtin.min2 s d >>= fun s => pure s) := by simp only [Builtin.min_, List.foldlM_cons, List.foldlM_nil]
end Go.Proofs.YtheheijhijeljaaGreatDoorW.PrintMore
namespace Go.Proofs.YtheheijhijeljaaGreatDoorW.PrintWords
open Go.RowKit
section
variable {P : Program} {ops : Array Oper} {rest : List Oper} {o : Oper} {a : Act} {Q : Exit → Act → World → Prop} {W : World}
/-- The operation is a call of this function (a cheap look ahead of a dear step). -/
theorem gate_callee {f : FuncId} {as9 : Array Operand} {ts : Array TypeId} (_ho : o.op = .call { callee := .value (.func f), args := as9, argTypes := ts }) (h : wpList P ops Q (o :: rest) a W) : wpList P ops Q (o :: rest) a W := h
/-- The operation is a builtin over these places. -/
theorem gate_builtin {b : Builtin} {xs : Array Operand} {ts : Array TypeId} (_ho : o.op = .call { callee := .builtin b, args := xs, argTypes := ts }) (h : wpList P ops Q (o :: rest) a W) : wpList P ops Q (o :: rest) a W := h
end
/-- The greater of two whole numbers, as9 Go's max tells it. -/
def mx (a b : Int) : Int := if a < b then b else a
/-- The smaller of two whole numbers, as9 Go's min tells it. -/
def mn (a b : Int) : Int := if b < a then b else a
namespace Kd
section
variable {α : Type} {d : Kd α} {e base : Nat} {ok : Nat → Prop} {W w1 : World} {v : Value} {xs : List α}
end
section
variable {α : Type} {d : Kd α} {e base g n cap : Nat} {ok oki okp : Nat → Prop} {W : World} {xs : List α} {i : Int} {c : List Value}
end
section
variable {α : Type} {d : Kd α} {e base b b' g N : Nat} {ok ok1 : Nat → Prop} {W W2 w1 : World} {u v : Value} {xs ys : List α} {S : Nat → Prop}
theorem R_reok (hE : d.E = []) (h : d.R e W base ok1 v xs) (hok : ∀ k, v.ownBlock = some k → ok k) : d.R e W base ok v xs := R_mono (R_tight hE h) (fun k hk => hok k hk.symm)
theorem R_keptB (h : d.R e W base ok v xs) (hk : Kept W W2 S) (hne : ∀ k, ok k → ¬ S k) : d.R e W2 base (fun k => ok k ∧ (¬ S k ∧ k < W.heap.size)) v xs :=
 R_kept (R_mono (R_bound h) (fun k hk => ⟨hk.1, hne k hk.1, hk.2.2.1⟩)) hk (fun _ hk => hk.2.1)
end
end Kd
end Go.Proofs.YtheheijhijeljaaGreatDoorW.PrintWords
namespace Go.Proofs.YtheheijhijeljaaGreatDoorW.PrintWords
open Go.RowKit
namespace Kd
section
variable {α β : Type} {d : Kd α} {e base base' n m c g N' lo hi : Nat} {ok ok' S : Nat → Prop} {w W w1 : World} {A : Option Addr} {ad : Addr} {u v v1 : Value} {xs : List α}
end
end Kd
end Go.Proofs.YtheheijhijeljaaGreatDoorW.PrintWords
namespace Go.Proofs.YtheheijhijeljaaGreatDoorX
open Go.RowKit Go.Sort Go.Proofs.YtheheijhijeljaaGreatDoorW.PrintWords
/-! Rows of the call's own, before and behind the library's sorts. -/
section
variable {α : Type} [Inhabited α]
theorem holds_of_own {enc : α → Value} {w : World} {base : Nat} {e : TypeId} {sz g n cap : Nat} {xs : List Value} (d : Array α)
  (h : w.ownsRow base e sz (.slice (some ⟨g, 0, none⟩) n cap) n xs) (hx : xs = d.toList.map enc) : Holds enc w g 0 d := by
 obtain ⟨hl, h2⟩ := h
 rcases h2 with ⟨h0, _⟩ | ⟨g', cap', cur, hv, _, hh, _, _, hc, ht⟩
 ·cases h0
 injection hv with h3 _ _
 injection h3 with h3
 injection h3 with h3 _ _
 subst h3
 intro j hj
 have hlen : n * sz = d.size := by rw [← hl, hx]; simp
 refine ⟨?_, by simp [World.frozen?, hh]⟩
 have h1 : (cur.toList.take (n * sz))[j]? = (d.toList.map enc)[j]? := by rw [ht, hx]
 rw [List.getElem?_take_of_lt (by omega)] at h1
 simp only [World.cell?, hh, Nat.zero_add]
 simp only [Option.isSome_none, Bool.false_eq_true, if_false]
 rw [← Array.getElem?_toList, h1]
 simp [hj]
theorem heap_put {enc : α → Value} {w : World} {g n : Nat} {os : Array Obj} {cur : Array Value} {e : TypeId} {fr : Nat × Nat} (d : Array α) (hb : w.heap[g]? = some (.cells cur e fr)) :
  (grow (putRow enc (Sort.ahead w n) g 0 d) os).heap[g]? = some (.cells (putCells enc 0 d cur) e fr) := by
 have hg : g < w.heap.size := (Array.getElem?_eq_some_iff.1 hb).1
 rw [heap_grow_old _ _ (by simpa using hg)]
 simp [putRow, mapBlock, Sort.ahead, Array.getElem?_modify, hb, onCells]
theorem grownBy_put {enc : α → Value} {w : World} {g n : Nat} {os : Array Obj} (d : Array α) : w.grownBy (grow (putRow enc (Sort.ahead w n) g 0 d) os) (some g) := by
 refine ⟨rfl, rfl, rfl, by simp, fun k hk hne => ?_⟩
 rw [heap_grow_old _ _ (by simpa using hk)]
 have : g ≠ k := fun e => hne (by rw [e])
 simp [putRow, mapBlock, Sort.ahead, Array.getElem?_modify, this]
theorem take_putCells {enc : α → Value} (cur : Array Value) (d : Array α) (h : d.size ≤ cur.size) : (putCells enc 0 d cur).toList.take d.size = d.toList.map enc := by
 apply List.ext_getElem?
 intro j
 by_cases hj : j < d.size
 ·rw [List.getElem?_take_of_lt hj, Array.getElem?_toList]
  simp [putCells, hj, show j < cur.size by omega]
 ·rw [List.getElem?_take_eq_none (by omega), List.getElem?_eq_none (by simp; omega)]
theorem own_put {enc : α → Value} {w : World} {base : Nat} {e : TypeId} {sz g n cap m : Nat} {os : Array Obj} {xs : List Value} (d : Array α)
  (h : w.ownsRow base e sz (.slice (some ⟨g, 0, none⟩) n cap) n xs) (hd : d.size = n * sz) :
  (grow (putRow enc (Sort.ahead w m) g 0 d) os).ownsRow base e sz (.slice (some ⟨g, 0, none⟩) n cap) n (d.toList.map enc) := by
 obtain ⟨hl, h2⟩ := h
 rcases h2 with ⟨h0, _⟩ | ⟨g', cap', cur, hv, hb, hh, h1, h3, hc, ht⟩
 ·cases h0
 injection hv with hv1 _ hv3
 injection hv1 with hv1
 injection hv1 with hv1 _ _
 subst hv1; subst hv3
 have hle : n * sz ≤ cap * sz := Nat.mul_le_mul_right _ h1
 refine ⟨by simp [hd], .inr ⟨g, cap, _, rfl, hb, heap_put d hh, h1, h3, by simp [putCells, hc], ?_⟩⟩
 rw [← hd]
 exact take_putCells cur d (by omega)
theorem own_block_lt {w : World} {base : Nat} {e : TypeId} {sz g n cap : Nat} {xs : List Value} (h : w.ownsRow base e sz (.slice (some ⟨g, 0, none⟩) n cap) n xs) : g < w.heap.size ∧ base ≤ g ∧ n ≤ maxLen := by
 rcases h.2 with ⟨h0, _⟩ | ⟨g', cap', cur, hv, hb, hh, h1, h3, hc, ht⟩
 ·cases h0
 injection hv with hv1 _ hv3
 injection hv1 with hv1
 injection hv1 with hv1 _ _
 subst hv1; subst hv3
 exact ⟨(Array.getElem?_eq_some_iff.1 hh).1, hb, by omega⟩
theorem own_cases {w : World} {base : Nat} {e : TypeId} {sz n : Nat} {v : Value} {xs : List Value} (h : w.ownsRow base e sz v n xs) : (v = .slice none 0 0 ∧ n = 0) ∨ ∃ g cap, v = .slice (some ⟨g, 0, none⟩) n cap := by
 rcases h.2 with h0 | ⟨g', cap', cur, hv, _⟩
 ·exact .inl h0
 ·exact .inr ⟨g', cap', hv⟩
omit [Inhabited α] in
/-- What a row of fixed elements holds is told by its elements alone. -/
theorem reps_flat {R : α → List Value → Prop} {enc : α → List Value} {k : Nat} (hR : ∀ p c, R p c → c = enc p) : ∀ {ps : List α} {cs : List Value}, Reps R k ps cs → (∀ p, (enc p).length = k) → cs = ps.flatMap enc
 | [], cs, h, hk => by
  have := h.1
  simpa using this
 | p :: ps, cs, h, hk => by
  have h0 := hR p _ (h.2 0 p rfl)
  rw [Nat.zero_mul, List.drop_zero] at h0
  have hl : cs.length = (ps.length + 1) * k := by simpa using h.1
  have h2 : Reps R k ps (cs.drop k) := by
   refine ⟨by rw [List.length_drop, hl, Nat.add_mul, Nat.one_mul]; omega, fun j q hq => ?_⟩
   have := h.2 (j + 1) q (by simpa using hq)
   rwa [List.drop_drop, show k + j * k = (j + 1) * k by rw [Nat.add_mul, Nat.one_mul]; omega]
  have ih := reps_flat hR h2 hk
  rw [List.flatMap_cons, ← ih, ← h0, List.take_append_drop]
omit [Inhabited α] in
theorem reps_of_flat {R : α → List Value → Prop} {enc : α → List Value} {k : Nat} (hR : ∀ p, R p (enc p)) (hk : ∀ p, (enc p).length = k) : ∀ (ps : List α), Reps R k ps (ps.flatMap enc)
 | [] => Reps.none _ _
 | p :: ps => by
  have ih := reps_of_flat hR hk ps
  refine ⟨by rw [List.flatMap_cons, List.length_append, ih.1, hk, List.length_cons, Nat.add_mul, Nat.one_mul]; omega, fun j q hq => ?_⟩
  cases j with
  | zero =>
   simp at hq
   subst hq
   rw [Nat.zero_mul, List.drop_zero, List.flatMap_cons, List.take_append_of_le_length (by rw [hk]; exact Nat.le_refl _), ← hk p, List.take_length]
   exact hR p
  | succ j =>
   have := ih.2 j q (by simpa using hq)
   rw [List.flatMap_cons, Nat.add_mul, Nat.one_mul, Nat.add_comm, ← List.drop_drop]
   rw [show List.drop k (enc p ++ List.flatMap enc ps) = List.flatMap enc ps from by rw [← hk p]; exact List.drop_left]
   exact this
theorem flatK_list (enc : α → List Value) (k : Nat) (hk : ∀ x, (enc x).length = k) (d : Array α) : (flatK enc k d).toList = d.toList.flatMap enc := by
  have hlen : ∀ l : List α, (l.flatMap enc).length = l.length * k := fun l => by
    induction l with
    | nil => simp
    | cons a t ih => rw [List.flatMap_cons, List.length_append, ih, hk, List.length_cons, Nat.add_mul, Nat.one_mul]; omega
  have key : ∀ (l : List α) (t : Nat), t < l.length * k → (l.flatMap enc)[t]? = some ((enc l[t / k]!)[t % k]!) := by
    intro l
    induction l with
    | nil => intro t h; simp at h
    | cons a l ih =>
      intro t h
      have k0 : 0 < k := by rcases Nat.eq_zero_or_pos k with h0 | h0; · subst h0; simp at h
                            · exact h0
      rw [List.flatMap_cons]
      by_cases ht : t < k
      · rw [List.getElem?_append_left (by rw [hk]; exact ht), Nat.div_eq_of_lt ht, Nat.mod_eq_of_lt ht]
        simp [hk, ht]
      · rw [List.getElem?_append_right (by rw [hk]; omega), hk, ih (t - k) (by simp at h; rw [Nat.add_mul, Nat.one_mul] at h; omega)]
        have e1 : t / k = (t - k) / k + 1 := by rw [Nat.div_eq_sub_div k0 (by omega)]
        have e2 : t % k = (t - k) % k := by rw [Nat.mod_eq_sub_mod (by omega)]
        rw [e1, e2]
        simp
  apply List.ext_getElem?
  intro t
  by_cases ht : t < d.size * k
  · rw [key d.toList t (by simpa using ht)]
    have h1 := get_flatK enc k d t ht
    rw [Array.getElem?_toList, Array.getElem?_eq_getElem (by simpa using ht), ← getElem!_pos (flatK enc k d) t (by simpa using ht), h1]
    have e3 : d.toList[t / k]! = d[t / k]! := by rw [List.getElem!_eq_getElem?_getD, Array.getElem?_toList, Array.getElem!_eq_getD]; simp [Array.getD_eq_getD_getElem?]
    rw [e3]
  · rw [List.getElem?_eq_none (by simp; omega), List.getElem?_eq_none (by rw [hlen]; simp; omega)]
end
theorem flat_len {α : Type} {enc : α → List Value} (k : Nat) (hk : ∀ x, (enc x).length = k) : ∀ l : List α, (l.flatMap enc).length = l.length * k
 | [] => by simp
 | a :: t => by rw [List.flatMap_cons, List.length_append, flat_len k hk t, hk, List.length_cons, Nat.add_mul, Nat.one_mul]; omega
/-- A kind whose elements are told by their cells alone. -/
structure Fixed {α : Type} (d : Kd α) (enc : α → List Value) : Prop where
 len : ∀ x, (enc x).length = d.sz
 out : ∀ {w base ok x cs}, d.M w base ok x cs → cs = enc x
 make : ∀ w base ok x, d.M w base ok x (enc x)
theorem fixed_R {α : Type} {d : Kd α} {enc : α → List Value} (hf : Fixed d enc) {e : Nat} {w : World} {base : Nat} {ok : Nat → Prop} {v : Value} {xs : List α} :
  d.R e w base ok v xs ↔ (∀ k, v.ownBlock = some k → ok k) ∧ w.ownsRow base e d.sz v xs.length (xs.flatMap enc) := by
 constructor
 ·rintro ⟨h1, inner, ho, hr⟩
  obtain rfl := reps_flat (fun p c h => hf.out h) hr hf.len
  exact ⟨h1, ho⟩
 ·rintro ⟨h1, ho⟩
  exact ⟨h1, _, ho, reps_of_flat (fun p => hf.make _ _ _ p) hf.len xs⟩
/-- Behind a call that has laid another list of the same length into a row of the call's own. -/
theorem row_put {α β : Type} [Inhabited β] {d : Kd α} {enc : α → List Value} (hf : Fixed d enc) {e : Nat} {w0 w : World} {P : Nat → Prop} {g n cap m : Nat} {xs ys : List α} {os : Array Obj} {enc' : β → Value} (F : Array β)
  (hB : Below w0.heap.size w0 w) (h : d.R e w w0.heap.size P (.slice (some ⟨g, 0, none⟩) n cap) xs) (hl : ys.length = xs.length) (hF : F.toList.map enc' = ys.flatMap enc) :
  d.R e (grow (putRow enc' (Sort.ahead w m) g 0 F) os) w0.heap.size (fun k_ => (P k_ ∨ w.heap.size ≤ k_)) (.slice (some ⟨g, 0, none⟩) n cap) ys ∧ Below w0.heap.size w0 (grow (putRow enc' (Sort.ahead w m) g 0 F) os) ∧ Kept w (grow (putRow enc' (Sort.ahead w m) g 0 F) os) (fun k_ => P k_) := by
 have h' := (fixed_R hf).1 h
 have hg : P g := h'.1 g rfl
 have hown := h'.2
 have hn : n = xs.length := by
  obtain ⟨A, c, hv⟩ := Kd.R_slice h
  injection hv
 subst hn
 have hlt := own_block_lt hown
 have hgb := grownBy_put (enc := enc') (w := w) (g := g) (n := m) (os := os) F
 have hsz : F.size = xs.length * d.sz := by
  have := congrArg List.length hF
  rw [List.length_map, Array.length_toList] at this
  rw [this, ← hl, flat_len _ hf.len]
 refine ⟨(fixed_R hf).2 ⟨fun k hk => .inl (by injection hk with hk; subst hk; exact hg), ?_⟩, hB.grown hgb hB.size (fun k hk => by injection hk with hk; subst hk; exact hlt.2.1), Kept.of_grown (S := fun k_ => P k_) hgb (Kept.refl w _) (fun k hk => .inl (by injection hk with hk; subst hk; exact hg))⟩
 have := own_put (enc := enc') (m := m) (os := os) F hown hsz
 rw [hF] at this
 rw [hl]
 exact this
theorem row_none {α : Type} {d : Kd α} {e : Nat} {w0 w : World} {P : Nat → Prop} {v : Value} {xs : List α} (hB : Below w0.heap.size w0 w) (h : d.R e w w0.heap.size P v xs) :
  d.R e w w0.heap.size (fun k_ => (P k_ ∨ w.heap.size ≤ k_)) v xs ∧ Below w0.heap.size w0 w ∧ Kept w w (fun k_ => P k_) :=
 ⟨Kd.R_mono h (fun _ hk => .inl hk), hB, Kept.refl _ _⟩
theorem fixed_int (k : IntKind) : Fixed (Kd.int k) (fun x => [.int k x]) := ⟨fun _ => rfl, fun h => h, fun _ _ _ _ => rfl⟩
end Go.Proofs.YtheheijhijeljaaGreatDoorX
namespace Go.Proofs.YtheheijhijeljaaGreatDoorX
open Go.RowKit Go.Sort Go.Lib Go.Proofs.YtheheijhijeljaaGreatDoorW.PrintWords
def encRg (x : Int × Int) : List Value := [.int .i64 x.1, .int .i64 x.2]
def cmpLo (x y : Int × Int) : Int := Lib.compareInt x.1 y.1
theorem ltLo (x y : Int × Int) : ltOf cmpLo x y = decide (x.1 < y.1) := by
 unfold ltOf cmpLo Lib.compareInt
 by_cases h1 : x.1 < y.1
 ·simp [h1]
 ·by_cases h2 : y.1 < x.1 <;> simp [h1, h2]
theorem swoLo : SWO (ltOf cmpLo) where
 irrefl x := by rw [ltLo]; simp
 trans x y z h1 h2 := by rw [ltLo] at *; simp at *; omega
 ntrans x y z h1 h2 := by rw [ltLo] at *; simp at *; omega
set_option maxHeartbeats 1000000 in
/-- ranges.Norm's closure: 'cmp.Compare(a.Lo, b.Lo)': in whatever world: two blocks are laid. -/
theorem closure_lo (x y : Int × Int) (W : World) : Calls Tryz.prog 41 #[.agg #[.int .i64 x.1, .int .i64 x.2], .agg #[.int .i64 y.1, .int .i64 y.2]] W fun e w' => e = .returned (.int .i64 (cmpLo x y)) ∧ ∃ q os', w' = grow (W.drewN q) os' := by
 have hcon := fun W' => AnyG.cmp_Compare_int Tryz.lay_cmpInt x.1 y.1 W'
 change ∀ W', Calls Tryz.prog 42 _ _ _ at hcon
 unfold cmpLo
 generalize Lib.compareInt x.1 y.1 = r at hcon ⊢
 go_enter Tryz.func41, Tryz.ntmps41
 go_wp2_with (go_at_call 42; refine (hcon _).mono ?_; rintro e w' ⟨rfl, rfl⟩)
 go_ret
 exact ⟨rfl, 0, _, by rw [alloc_eq_grow, alloc_eq_grow, grow_grow]; rfl⟩
theorem cmpLays_lo (blk off size : Nat) (w : World) : CmpLays Tryz.prog 41 #[] encRg 2 cmpLo blk off size w :=
 fun _ _ _ _ x y => closure_lo x y _
/-- What the library's sort makes of a list, by Lo. -/
def sortLo (l : List (Int × Int)) : List (Int × Int) := (Sort.pdq (ltOf cmpLo) l.toArray 0 l.length (Lib.bitLen l.length) true true).toList
theorem sortLo_perm (l : List (Int × Int)) : (sortLo l).Perm l := by
 have h := (pdq_sorts (ltOf cmpLo) swoLo l.toArray 0 l.length (Lib.bitLen l.length) true true (Nat.zero_le _) (by simp) (Or.inl rfl)).1
 obtain ⟨h1, _, h3⟩ := h
 unfold sortLo
 generalize Sort.pdq (ltOf cmpLo) l.toArray 0 l.length (Lib.bitLen l.length) true true = d at h1 h3 ⊢
 have e1 : d.extract 0 l.length = d := by rw [show l.length = d.size by rw [h1]; simp]; simp
 have e2 : l.toArray.extract 0 l.length = l.toArray := by simp
 rw [e1, e2] at h3
 simpa using h3
theorem sortLo_sorted (l : List (Int × Int)) : (sortLo l).Pairwise (fun x y => x.1 ≤ y.1) := by
 have h := (pdq_sorts (ltOf cmpLo) swoLo l.toArray 0 l.length (Lib.bitLen l.length) true true (Nat.zero_le _) (by simp) (Or.inl rfl))
 obtain ⟨⟨h1, _, _⟩, h2⟩ := h
 unfold sortLo
 generalize Sort.pdq (ltOf cmpLo) l.toArray 0 l.length (Lib.bitLen l.length) true true = d at h1 h2 ⊢
 rw [List.pairwise_iff_getElem]
 intro i j hi hj hij
 have hj' : j < d.size := by simpa using hj
 have hi' : i < d.size := by omega
 have := h2 i j (Nat.zero_le _) hij (by simpa [h1] using hj')
 rw [ltLo, getElem!_pos d j hj', getElem!_pos d i hi'] at this
 simp at this ⊢
 omega
/-- slices.SortFunc of ranges by Lo, over a row of the call's own. -/
theorem sortRange_calls {α : Type} {d : Kd α} (of : α → Int × Int) (back : Int × Int → α) (hbo : ∀ x, of (back x) = x) (hf : Fixed d (fun x => encRg (of x))) (P0_ : Nat → Prop) (u9000_ : Value) (l0 : List α) (w0 w : World) (hB : RowKit.Below w0.heap.size w0 w) (ho0 : Kd.R d 36 w w0.heap.size P0_ u9000_ l0) (hs : l0.length < 4611686018427387904) :
  Calls Tryz.prog 40 #[u9000_, .func (.func 41) #[] #[]] w fun e w' => e = .returned (.tuple #[]) ∧ Kd.R d 36 w' w0.heap.size (fun k_ => (P0_ k_ ∨ w.heap.size ≤ k_)) u9000_ ((sortLo (l0.map of)).map back) ∧ RowKit.Below w0.heap.size w0 w' ∧ Kept w w' (fun k_ => P0_ k_) := by
 have hR := (fixed_R hf).1 ho0
 rcases own_cases hR.2 with ⟨rfl, h0⟩ | ⟨g, cap, rfl⟩
 ·obtain rfl := List.length_eq_zero_iff.1 h0
  have e : (sortLo (([] : List α).map of)).map back = [] := by
   have := (sortLo_perm []).length_eq
   simp at this
   simp [this]
  rw [e]
  exact (AnyF.slices_SortFunc_none { Tryz.lay_sortFuncRange with } none 0 (.func (.func 41) #[] #[]) w).mono fun e w' ⟨he, hw⟩ => by
   subst hw
   exact ⟨he, row_none hB ho0⟩
 ·have hb := own_block_lt hR.2
  have eg : ∀ args w, (callFunc 41 args).run Tryz.prog w = .ok (.enter 41 args) w := enters_of Tryz.func41 (by kernel_rfl) rfl
  have hfl : ∀ l : List (Int × Int), (flatK encRg 2 l.toArray).toList = l.flatMap encRg := fun l => by rw [flatK_list encRg 2 (fun _ => rfl)]
  have hH : HoldsK encRg 2 w g 0 (l0.map of).toArray := holds_of_own (enc := id) (flatK encRg 2 (l0.map of).toArray) hR.2 (by rw [List.map_id, hfl, List.flatMap_map])
  have hcon := AnyQ.slices_SortFunc_eq Tryz.lay_sortFuncRange 2 Tryz.isAgg36 Tryz.sizeOf36 encRg (fun _ => rfl) (fun x v hv => by simp [encRg] at hv; rcases hv with rfl | rfl <;> rfl) cmpLo swoLo 41 #[] g 0 cap (l0.map of).toArray w eg (cmpLays_lo g 0 _ w) hH hb.1 (by simpa using hs)
  change Calls Tryz.prog 40 _ _ _ at hcon
  rw [show (l0.map of).toArray.size = l0.length by simp] at hcon
  refine hcon.mono fun e w' ⟨he, n, os, hw⟩ => ?_
  subst hw
  have hlen : (sortLo (l0.map of)).length = l0.length := by rw [(sortLo_perm _).length_eq]; simp
  refine ⟨he, row_put (enc' := id) hf _ hB ho0 (by simpa using hlen) ?_⟩
  rw [List.map_id, flatK_list encRg 2 (fun _ => rfl), List.flatMap_map]
  simp only [hbo]
  unfold sortLo
  simp
end Go.Proofs.YtheheijhijeljaaGreatDoorX
namespace Go.Proofs.YtheheijhijeljaaGreatDoorX
open Go.RowKit Go.Sort Go.Lib Go.Proofs.YtheheijhijeljaaGreatDoorW.PrintWords
set_option maxHeartbeats 1000000 in
theorem index_none (p : Option Addr) (cap : Nat) (fv : Value) (w : World) : Calls Tryz.prog 116 #[.slice p 0 cap, fv] w fun e w' => e = .returned (.int .i64 (-1)) ∧ w' = w := by
 go_enter Tryz.func116, Tryz.ntmps116
 go_wp2
 refine wp_loop_rounds 1 ?_
 rw [rounds_succ]
 go_wp2
 go_ret
 exact ⟨rfl, rfl⟩
set_option maxHeartbeats 1000000 in
theorem contains_none (p : Option Addr) (cap : Nat) (fv : Value) (w : World) : Calls Tryz.prog 82 #[.slice p 0 cap, fv] w fun e w' => e = .returned (.bool false) ∧ w' = w := by
 go_enter Tryz.func82, Tryz.ntmps82
 go_wp2_with (go_at_call 116; refine (index_none _ _ _ _).mono ?_; rintro e w' ⟨rfl, rfl⟩)
 go_ret
 exact ⟨rfl, rfl⟩
set_option maxHeartbeats 1000000 in
theorem pred_has (r : Int) (B : Nat) (w : World) (hB : B < w.heap.size) (hcell : w.cell? ⟨B, 0, none⟩ = some (.int .i64 r)) :
  PredBelow Tryz.prog 83 #[.pointer (some ⟨B, 0, none⟩)] (fun x => .agg (encRg x).toArray) (fun x => decide (x.1 ≤ r) && decide (r ≤ x.2)) w := fun W x hb => by
 have hc : W.cell? ⟨B, 0, none⟩ = some (.int .i64 r) := (hb.cell (p := ⟨B, 0, none⟩) hB).trans hcell
 have hBW : B < W.heap.size := Nat.lt_of_lt_of_le hB hb.size
 have hne : B ≠ W.heap.size := by omega
 show Calls Tryz.prog 83 #[.agg #[.int .i64 x.1, .int .i64 x.2], .pointer (some ⟨B, 0, none⟩)] W _
 have HB := Aside0.mk hb
 clear hb
 obtain ⟨a, b⟩ := x
 dsimp only
 by_cases h1 : a ≤ r
 ·have hd1 : decide (a ≤ r) = true := decide_eq_true h1
  rw [hd1, Bool.true_and]
  go_enter Tryz.func83, Tryz.ntmps83
  go_wp2
  go_ret
  exact ⟨rfl, HB.out.alloc HB.out.size _⟩
 ·have hd1 : decide (a ≤ r) = false := decide_eq_false h1
  rw [hd1, Bool.false_and]
  go_enter Tryz.func83, Tryz.ntmps83
  go_wp2
  go_ret
  exact ⟨rfl, HB.out.alloc HB.out.size _⟩
def inL (l : List (Int × Int)) (r : Int) : Bool := l.any fun x => decide (x.1 ≤ r) && decide (r ≤ x.2)
def hasL (l : List (Int × Int)) (r : Int) : Bool := decide (0 ≤ r) && (decide (r ≤ 1114111) && inL l r)
/-- A row that is read: its cells, address and all. -/
theorem row_cells {α : Type} {d : Kd α} {of : α → Int × Int} (hK : ∀ {w x cs}, d.K w x cs → cs = encRg (of x)) (hsz : d.sz = 2) {w : World} {A : Option Addr} {l : List α} (h : Kd.C d w A l.length l) (hp : 0 < l.length) :
  ∃ b off, A = some ⟨b, off, none⟩ ∧ b < w.heap.size ∧ l.length ≤ 9223372036854775807 ∧ ∀ j, j < (l.map of).length → ∀ i v, (encRg (l.map of)[j]!)[i]? = some v → w.cell? ⟨b, off + j * 2 + i, none⟩ = some v := by
 obtain ⟨_, hn, hc0⟩ := h
 obtain ⟨ad, rfl, hc⟩ := hc0 hp
 clear hc0
 obtain ⟨b, off, spot⟩ := ad
 have key : ∀ j (hj : j < l.length) i v, (encRg (of l[j]))[i]? = some v → w.cell? ((⟨b, off, spot⟩ : Addr).add (j * 2 + i)) = some v := by
  intro j hj i v hi
  obtain ⟨c, _, hk, hcell⟩ := hc j l[j] (List.getElem?_eq_getElem hj)
  obtain rfl := hK hk
  have := hcell i v hi
  rwa [hsz] at this
 have h0 := key 0 hp 0 _ rfl
 have hs : spot = none := by
  rw [show 0 * 2 + 0 = 0 from rfl] at h0
  simp only [Addr.add, if_true, World.cell?] at h0
  cases spot with
  | none => rfl
  | some q =>
   revert h0
   split
   ·simp
   ·simp
 subst hs
 have hadd : ∀ n, (⟨b, off, none⟩ : Addr).add n = ⟨b, off + n, none⟩ := fun n => by unfold Addr.add; split <;> simp_all
 refine ⟨b, off, rfl, ?_, hn, fun j hj i v hi => ?_⟩
 ·have := World.block_lt_of_cell? w _ h0
  rwa [hadd] at this
 ·have hj' : j < l.length := by simpa using hj
  have := key j hj' i v (by rw [getElem!_pos (l.map of) j hj] at hi; simpa using hi)
  rwa [hadd, ← Nat.add_assoc] at this
set_option maxHeartbeats 1000000 in
theorem contains_in {α : Type} {d : Kd α} {of : α → Int × Int} (hK : ∀ {w x cs}, d.K w x cs → cs = encRg (of x)) (hsz : d.sz = 2) (A : Option Addr) (c : Nat) (l : List α) (r : Int) (w : World) (B : Nat) (hB : B < w.heap.size) (hcell : w.cell? ⟨B, 0, none⟩ = some (.int .i64 r)) (h : Kd.C d w A l.length l) :
  Calls Tryz.prog 82 #[.slice A l.length c, .func (.func 83) #[] #[.pointer (some ⟨B, 0, none⟩)]] w fun e w' => e = .returned (.bool (inL (l.map of) r)) ∧ Below w.heap.size w w' := by
 by_cases hp : 0 < l.length
 ·obtain ⟨b, off, rfl, hb, hn, hc⟩ := row_cells (of := of) hK hsz h hp
  have eg : ∀ args w, (callFunc 83 args).run Tryz.prog w = .ok (.enter 83 args) w := enters_of Tryz.func83 (by kernel_rfl) rfl
  have hcon := AnyQ.slices_ContainsFunc Tryz.lay_containsFuncRange 2 Tryz.isAgg36 Tryz.sizeOf36 encRg (fun _ => rfl) (fun x => decide (x.1 ≤ r) && decide (r ≤ x.2)) 83 #[.pointer (some ⟨B, 0, none⟩)] eg b off l.length c (l.map of) w (pred_has r B w hB hcell) (by simp) hn hb hc
  change Calls Tryz.prog 82 _ _ _ at hcon
  have e : (l.map of).take l.length = l.map of := List.take_of_length_le (by simp)
  rw [e] at hcon
  exact hcon
 ·have e : l = [] := List.length_eq_zero_iff.1 (by omega)
  subst e
  exact (contains_none A c _ w).mono fun e w' ⟨he, hw⟩ => by subst hw; exact ⟨he, Below.refl _ _⟩
set_option maxHeartbeats 1000000 in
/-- ranges.Has. -/
theorem has_any {α : Type} {d : Kd α} {of : α → Int × Int} (hK : ∀ {w x cs}, d.K w x cs → cs = encRg (of x)) (hsz : d.sz = 2) (A : Option Addr) (c : Nat) (l : List α) (r : Int) (w : World) (h : Kd.C d w A l.length l) :
  Calls Tryz.prog 48 #[.slice A l.length c, .int .i64 r] w fun e w' => e = .returned (.bool (hasL (l.map of) r)) ∧ Below w.heap.size w w' := by
 have hcon := contains_in (of := of) hK hsz A c l r (w.alloc (.cells #[.int .i64 r] 3)) w.heap.size (by simp) (by simp) (Kd.C_alloc h _)
 have HC := Aside0.mk hcon
 clear h hcon
 unfold hasL
 by_cases h1 : 0 ≤ r
 ·rw [decide_eq_true h1, Bool.true_and]
  by_cases h2 : r ≤ 1114111
  ·rw [decide_eq_true h2, Bool.true_and]
   generalize inL (l.map of) r = q at HC ⊢
   go_enter Tryz.func48, Tryz.ntmps48
   go_wp2_with (go_at_call 82; refine HC.out.mono ?_; rintro e w' ⟨rfl, hb⟩)
   go_ret
   exact ⟨rfl, ((Below.refl _ w).alloc (Nat.le_refl _) _).trans (hb.mono (by simp))⟩
  ·rw [decide_eq_false h2, Bool.false_and]
   go_enter Tryz.func48, Tryz.ntmps48
   go_wp2
   go_ret
   exact ⟨rfl, (Below.refl _ w).alloc (Nat.le_refl _) _⟩
 ·rw [decide_eq_false h1, Bool.false_and]
  go_enter Tryz.func48, Tryz.ntmps48
  go_wp2
  go_ret
  exact ⟨rfl, (Below.refl _ w).alloc (Nat.le_refl _) _⟩
end Go.Proofs.YtheheijhijeljaaGreatDoorX
namespace Go.Proofs.YtheheijhijeljaaGreatDoorX
open Go.RowKit Go.Proofs.YtheheijhijeljaaGreatDoorW.PrintWords
/-- A range as9 two numbers. -/
def kRg : Kd (Int × Int) := Kd.pair (Kd.int .i64) (Kd.int .i64)
theorem kRg_K {w : World} {x : Int × Int} {cs : List Value} (h : kRg.K w x cs) : cs = encRg x := by
 obtain ⟨_, _, rfl, rfl, rfl⟩ := h
 rfl
theorem kRg_mkK (w : World) (x : Int × Int) : kRg.K w x (encRg x) := ⟨[_], [_], rfl, rfl, rfl⟩
theorem kRg_fixed : Fixed kRg encRg where
 len _ := rfl
 out h := by
  obtain ⟨_, _, rfl, rfl, rfl⟩ := h
  rfl
 make _ _ _ x := ⟨[_], [_], rfl, rfl, rfl⟩
theorem kRg_sz : kRg.sz = 2 := rfl
section
variable {α β : Type} {d : Kd α} {f : β → α} {w : World} {A : Option Addr} {n e base : Nat} {ok : Nat → Prop} {v : Value}
theorem reps_map {R : α → List Value → Prop} {size : Nat} {xs : List β} {cs : List Value} : Reps (fun x c => R (f x) c) size xs cs ↔ Reps R size (xs.map f) cs := by
 constructor
 ·rintro ⟨h1, h2⟩
  refine ⟨by simpa using h1, fun j p hp => ?_⟩
  rw [List.getElem?_map] at hp
  obtain ⟨x, hx, rfl⟩ := Option.map_eq_some_iff.1 hp
  exact h2 j x hx
 ·rintro ⟨h1, h2⟩
  refine ⟨by simpa using h1, fun j p hp => ?_⟩
  exact h2 j (f p) (by rw [List.getElem?_map, hp]; rfl)
theorem C_iso {xs : List β} : Kd.C (Kd.iso d f) w A n xs ↔ Kd.C d w A n (xs.map f) := by
 constructor
 ·rintro ⟨h1, h2, h3⟩
  refine ⟨by simpa using h1, h2, fun h => ?_⟩
  obtain ⟨ad, rfl, h4⟩ := h3 h
  refine ⟨ad, rfl, fun j p hp => ?_⟩
  rw [List.getElem?_map] at hp
  obtain ⟨x, hx, rfl⟩ := Option.map_eq_some_iff.1 hp
  exact h4 j x hx
 ·rintro ⟨h1, h2, h3⟩
  refine ⟨by simpa using h1, h2, fun h => ?_⟩
  obtain ⟨ad, rfl, h4⟩ := h3 h
  exact ⟨ad, rfl, fun j p hp => h4 j (f p) (by rw [List.getElem?_map, hp]; rfl)⟩
theorem R_iso {xs : List β} : Kd.R (Kd.iso d f) e w base ok v xs ↔ Kd.R d e w base ok v (xs.map f) := by
 constructor
 ·rintro ⟨h1, inner, ho, hr⟩
  exact ⟨h1, inner, by rw [List.length_map]; exact ho, reps_map.1 hr⟩
 ·rintro ⟨h1, inner, ho, hr⟩
  rw [List.length_map] at ho
  exact ⟨h1, inner, ho, reps_map (R := d.M w base fun k => ok k ∧ some k ≠ v.ownBlock).2 hr⟩
end
end Go.Proofs.YtheheijhijeljaaGreatDoorX
namespace Go.Proofs.YtheheijhijeljaaGreatDoorX
open Go.RowKit Go.Proofs.YtheheijhijeljaaGreatDoorW.PrintWords Go.Proofs.YtheheijhijeljaaGreatDoorW.PrintLast Go.Proofs.YtheheijhijeljaaGreatDoorW.PrintMore
set_option linter.unusedVariables false
set_option linter.unusedSimpArgs false
theorem info_rg : (Tryz.prog.info? 36).map (fun i => (i.zero, i.size, i.bytes)) = some (some (.agg #[(.int .i64 0), (.int .i64 0)]), 2, 16) := by kernel_rfl
def NormAt (nf : List (Int × Int) → List (Int × Int)) (P : List (Int × Int) → Prop) : Prop :=
 ∀ (A : Option Addr) (c : Nat) (l : List (Int × Int)) (w : World), P l → Kd.C kRg w A l.length l → l.length ≤ c →
  Calls Tryz.prog 17 #[.slice A l.length c] w fun e w' => ∃ v0_ : Value, e = .returned v0_ ∧ Kd.R kRg 36 w' w.heap.size (fun _ => True) v0_ (nf l) ∧ Below w.heap.size w w'
def BothPost (w : World) (l : List (Int × Int)) (e : Ending) (w' : World) : Prop := ∃ v0_ : Value, e = .returned v0_ ∧ Kd.R kRg 36 w' w.heap.size (fun _ => True) v0_ l ∧ Below w.heap.size w w'
end Go.Proofs.YtheheijhijeljaaGreatDoorX
namespace Go.Proofs.YtheheijhijeljaaGreatDoorX
open Go.RowKit Go.Proofs.YtheheijhijeljaaGreatDoorW.PrintWords Go.Proofs.YtheheijhijeljaaGreatDoorW.PrintLast Go.Proofs.YtheheijhijeljaaGreatDoorW.PrintMore
set_option linter.unusedVariables false
set_option linter.unusedSimpArgs false
/-! Sets of numbers as9 lists of ranges, over plain numbers. -/
def clip (x : Int × Int) : List (Int × Int) := if max x.1 0 ≤ min x.2 1114111 then [(max x.1 0, min x.2 1114111)] else []
def go1 (c : Int × Int) : List (Int × Int) → List (Int × Int)
 | [] => [c]
 | y :: t => if y.1 ≤ c.2 + 1 then go1 (c.1, max c.2 y.2) t else c :: go1 y t
def mergeL : List (Int × Int) → List (Int × Int)
 | [] => []
 | x :: t => go1 x t
def normL (l : List (Int × Int)) : List (Int × Int) := mergeL (sortLo (l.flatMap clip))
/-- In range, one behind the other, with a gap. -/
structure Nrm (l : List (Int × Int)) : Prop where
 inr : ∀ x ∈ l, 0 ≤ x.1 ∧ x.1 ≤ x.2 ∧ x.2 ≤ 1114111
 apart : l.Pairwise (fun x y => x.2 + 1 < y.1)
theorem Nrm.nil : Nrm [] := ⟨fun x hx => by simp at hx, List.Pairwise.nil⟩
theorem inL_nil (r : Int) : inL [] r = false := rfl
theorem inL_cons (x : Int × Int) (t : List (Int × Int)) (r : Int) : inL (x :: t) r = ((decide (x.1 ≤ r) && decide (r ≤ x.2)) || inL t r) := rfl
theorem inL_append (a b : List (Int × Int)) (r : Int) : inL (a ++ b) r = (inL a r || inL b r) := by unfold inL; rw [List.any_append]
theorem inL_iff {l : List (Int × Int)} {r : Int} : inL l r = true ↔ ∃ x ∈ l, x.1 ≤ r ∧ r ≤ x.2 := by
 unfold inL
 rw [List.any_eq_true]
 simp
theorem inL_perm {a b : List (Int × Int)} (h : a.Perm b) (r : Int) : inL a r = inL b r := by
 rw [Bool.eq_iff_iff, inL_iff, inL_iff]
 exact ⟨fun ⟨x, hx, h1⟩ => ⟨x, h.mem_iff.1 hx, h1⟩, fun ⟨x, hx, h1⟩ => ⟨x, h.mem_iff.2 hx, h1⟩⟩
theorem Nrm.tail {x : Int × Int} {t : List (Int × Int)} (h : Nrm (x :: t)) : Nrm t := ⟨fun y hy => h.inr y (by simp [hy]), (List.pairwise_cons.1 h.apart).2⟩
theorem Nrm.range {l : List (Int × Int)} (h : Nrm l) {r : Int} (hr : inL l r = true) : 0 ≤ r ∧ r ≤ 1114111 := by
 obtain ⟨x, hx, h1, h2⟩ := inL_iff.1 hr
 have := h.inr x hx
 omega
theorem clip_in (l : List (Int × Int)) (r : Int) : inL (l.flatMap clip) r = hasL l r := by
 unfold hasL
 induction l with
 | nil => simp [inL]
 | cons x t ih =>
  rw [List.flatMap_cons, inL_append, ih, inL_cons]
  unfold clip
  split
  ·rename_i h
   simp only [inL_cons, inL_nil, Bool.or_false]
   rw [Bool.eq_iff_iff]
   by_cases ht : inL t r = true
   ·simp only [ht, Bool.or_true, Bool.and_true, Bool.or_eq_true, Bool.and_eq_true, decide_eq_true_eq]
    omega
   ·rw [Bool.not_eq_true] at ht
    simp only [ht, Bool.or_false, Bool.and_false, Bool.and_eq_true, decide_eq_true_eq]
    omega
  ·rename_i h
   rw [inL_nil, Bool.false_or, Bool.eq_iff_iff]
   simp only [Bool.or_eq_true, Bool.and_eq_true, decide_eq_true_eq]
   constructor
   ·rintro ⟨h1, h2, h3⟩; exact ⟨h1, h2, .inr h3⟩
   ·rintro ⟨h1, h2, h3 | h3⟩
    ·exfalso; apply h; omega
    ·exact ⟨h1, h2, h3⟩
theorem clip_range {l : List (Int × Int)} {x : Int × Int} (h : x ∈ l.flatMap clip) : 0 ≤ x.1 ∧ x.1 ≤ x.2 ∧ x.2 ≤ 1114111 := by
 rw [List.mem_flatMap] at h
 obtain ⟨y, _, hy⟩ := h
 unfold clip at hy
 split at hy
 ·rename_i hc
  rw [List.mem_singleton] at hy
  subst hy
  refine ⟨?_, hc, ?_⟩
  ·show (0 : Int) ≤ max y.1 0; omega
  ·show min y.2 1114111 ≤ (1114111 : Int); omega
 ·simp at hy
theorem go1_all : ∀ (t : List (Int × Int)) (c : Int × Int), (0 ≤ c.1 ∧ c.1 ≤ c.2 ∧ c.2 ≤ 1114111) → (∀ y ∈ t, 0 ≤ y.1 ∧ y.1 ≤ y.2 ∧ y.2 ≤ 1114111) → (c :: t).Pairwise (fun x y => x.1 ≤ y.1) →
  Nrm (go1 c t) ∧ (∀ z ∈ go1 c t, c.1 ≤ z.1) ∧ ∀ r, inL (go1 c t) r = inL (c :: t) r
 | [], c, hc, _, _ => ⟨⟨fun x hx => by rw [go1, List.mem_singleton] at hx; subst hx; exact hc, by simp [go1]⟩, fun z hz => by rw [go1, List.mem_singleton] at hz; subst hz; omega, fun r => rfl⟩
 | y :: t, c, hc, hy, hp => by
  have hyc := hy y (by simp)
  have hp1 := List.pairwise_cons.1 hp
  have hp2 := List.pairwise_cons.1 hp1.2
  have hcy := hp1.1 y (by simp)
  unfold go1
  split
  ·rename_i h
   have ih := go1_all t (c.1, max c.2 y.2) ⟨hc.1, by show c.1 ≤ max c.2 y.2; omega, by show max c.2 y.2 ≤ 1114111; omega⟩ (fun z hz => hy z (by simp [hz])) (List.pairwise_cons.2 ⟨fun z hz => hp1.1 z (by simp [hz]), hp2.2⟩)
   refine ⟨ih.1, ih.2.1, fun r => ?_⟩
   rw [ih.2.2 r, inL_cons, inL_cons, inL_cons, Bool.eq_iff_iff]
   by_cases ht : inL t r = true
   ·simp [ht]
   ·rw [Bool.not_eq_true] at ht
    simp only [ht, Bool.or_false, Bool.or_eq_true, Bool.and_eq_true, decide_eq_true_eq]
    omega
  ·rename_i h
   have ih := go1_all t y hyc (fun z hz => hy z (by simp [hz])) hp1.2
   refine ⟨⟨fun z hz => ?_, List.pairwise_cons.2 ⟨fun z hz => ?_, ih.1.apart⟩⟩, fun z hz => ?_, fun r => ?_⟩
   ·rcases List.mem_cons.1 hz with rfl | hz
    ·exact hc
    ·exact ih.1.inr z hz
   ·have := ih.2.1 z hz
    omega
   ·rcases List.mem_cons.1 hz with rfl | hz
    ·omega
    ·have := ih.2.1 z hz
     omega
   ·rw [inL_cons, ih.2.2 r, inL_cons c]
theorem normL_all (l : List (Int × Int)) : Nrm (normL l) ∧ ∀ r, inL (normL l) r = hasL l r := by
 have hs := sortLo_sorted (l.flatMap clip)
 have hm := sortLo_perm (l.flatMap clip)
 unfold normL
 have hr : ∀ x ∈ sortLo (l.flatMap clip), 0 ≤ x.1 ∧ x.1 ≤ x.2 ∧ x.2 ≤ 1114111 := fun x hx => clip_range (hm.mem_iff.1 hx)
 have hin : ∀ r, inL (sortLo (l.flatMap clip)) r = hasL l r := fun r => (inL_perm hm r).trans (clip_in l r)
 generalize sortLo (l.flatMap clip) = s at hs hr hin
 cases s with
 | nil => exact ⟨Nrm.nil, hin⟩
 | cons x t =>
  have h := go1_all t x (hr x (by simp)) (fun z hz => hr z (by simp [hz])) hs
  exact ⟨h.1, fun r => (h.2.2 r).trans (hin r)⟩
theorem normL_nrm (l : List (Int × Int)) : Nrm (normL l) := (normL_all l).1
theorem normL_in (l : List (Int × Int)) (r : Int) : inL (normL l) r = hasL l r := (normL_all l).2 r
theorem hasL_nrm {l : List (Int × Int)} (h : Nrm l) (r : Int) : hasL l r = inL l r := by
 unfold hasL
 by_cases hi : inL l r = true
 ·have := h.range hi
  rw [hi, decide_eq_true this.1, decide_eq_true this.2]; rfl
 ·rw [Bool.not_eq_true] at hi
  rw [hi]; simp
theorem nrm_head {x : Int × Int} {t : List (Int × Int)} (h : Nrm (x :: t)) {r : Int} (hr : inL t r = true) : x.2 + 1 < r := by
 obtain ⟨y, hy, h1, h2⟩ := inL_iff.1 hr
 have := (List.pairwise_cons.1 h.apart).1 y hy
 omega
/-- ONE LIST A SET. -/
theorem nrm_ext : ∀ {a b : List (Int × Int)}, Nrm a → Nrm b → (∀ r, inL a r = inL b r) → a = b
 | [], [], _, _, _ => rfl
 | [], y :: t, _, hb, h => by
  have hy := hb.inr y (by simp)
  have := h y.1
  rw [inL_nil, inL_cons, decide_eq_true (by omega : y.1 ≤ y.1), decide_eq_true hy.2.1] at this
  simp at this
 | x :: s, [], ha, _, h => by
  have hx := ha.inr x (by simp)
  have := h x.1
  rw [inL_nil, inL_cons, decide_eq_true (by omega : x.1 ≤ x.1), decide_eq_true hx.2.1] at this
  simp at this
 | x :: s, y :: t, ha, hb, h => by
  have hx := ha.inr x (by simp)
  have hy := hb.inr y (by simp)
  have key : ∀ r, (x.1 ≤ r ∧ r ≤ x.2 ∨ inL s r = true) ↔ (y.1 ≤ r ∧ r ≤ y.2 ∨ inL t r = true) := fun r => by
   have := h r
   rw [inL_cons, inL_cons, Bool.eq_iff_iff] at this
   simpa using this
  have e1 : x.1 = y.1 := by
   have k1 := (key x.1).1 (.inl ⟨by omega, by omega⟩)
   have k2 := (key y.1).2 (.inl ⟨by omega, by omega⟩)
   rcases k1 with k1 | k1 <;> rcases k2 with k2 | k2
   ·omega
   ·have := nrm_head ha k2; omega
   ·have := nrm_head hb k1; omega
   ·have := nrm_head ha k2; have := nrm_head hb k1; omega
  have e2 : x.2 = y.2 := by
   rcases Int.lt_trichotomy x.2 y.2 with hlt | he | hgt
   ·have k := (key (x.2 + 1)).2 (.inl ⟨by omega, by omega⟩)
    rcases k with k | k
    ·omega
    ·have := nrm_head ha k; omega
   ·exact he
   ·have k := (key (y.2 + 1)).1 (.inl ⟨by omega, by omega⟩)
    rcases k with k | k
    ·omega
    ·have := nrm_head hb k; omega
  have e : x = y := Prod.ext e1 e2
  subst e
  have ht : s = t := nrm_ext ha.tail hb.tail (fun r => by
   rw [Bool.eq_iff_iff]
   constructor
   ·intro hr
    have := nrm_head ha hr
    rcases (key r).1 (.inr hr) with k | k
    ·omega
    ·exact k
   ·intro hr
    have := nrm_head hb hr
    rcases (key r).2 (.inr hr) with k | k
    ·omega
    ·exact k)
  rw [ht]
theorem clip_len (l : List (Int × Int)) : (l.flatMap clip).length ≤ l.length := by
 induction l with
 | nil => simp
 | cons x t ih =>
  rw [List.flatMap_cons, List.length_append, List.length_cons]
  have : (clip x).length ≤ 1 := by unfold clip; split <;> simp
  omega
theorem go1_len : ∀ (t : List (Int × Int)) (c : Int × Int), (go1 c t).length ≤ t.length + 1
 | [], c => by simp [go1]
 | y :: t, c => by
  unfold go1
  split
  ·have := go1_len t (c.1, max c.2 y.2); simp; omega
  ·have := go1_len t y; simp; omega
theorem normL_len (l : List (Int × Int)) : (normL l).length ≤ l.length := by
 have h1 := (sortLo_perm (l.flatMap clip)).length_eq
 have h2 := clip_len l
 unfold normL
 generalize sortLo (l.flatMap clip) = s at h1
 cases s with
 | nil => simp [mergeL]
 | cons x t =>
  have := go1_len t x
  rw [List.length_cons] at h1
  show (go1 x t).length ≤ _
  omega
end Go.Proofs.YtheheijhijeljaaGreatDoorX
namespace Go.Proofs.YtheheijhijeljaaGreatDoorX
set_option linter.unusedVariables false
set_option linter.unusedSimpArgs false
/-! What is in both. -/
/-! What is in none. -/
def notG (from_ : Int) : List (Int × Int) → List (Int × Int)
 | [] => if from_ ≤ 1114111 then [(from_, 1114111)] else []
 | x :: t => if from_ < x.1 then (from_, x.1 - 1) :: notG (x.2 + 1) t else notG (x.2 + 1) t
def notL (l : List (Int × Int)) : List (Int × Int) := notG 0 (normL l)
theorem notG_all : ∀ (l : List (Int × Int)) (f : Int), 0 ≤ f → f ≤ 1114112 → Nrm l → (∀ x ∈ l, f ≤ x.1) → Nrm (notG f l) ∧ (∀ z ∈ notG f l, f ≤ z.1) ∧ ∀ r, inL (notG f l) r = (decide (f ≤ r) && (decide (r ≤ 1114111) && !inL l r))
 | [], f, h0, h1, _, _ => by
  unfold notG
  split
  ·rename_i h
   refine ⟨⟨fun x hx => ?_, by simp⟩, fun z hz => ?_, fun r => ?_⟩
   ·rw [List.mem_singleton] at hx
    subst hx
    exact ⟨h0, h, Int.le_refl _⟩
   ·rw [List.mem_singleton] at hz
    subst hz
    exact Int.le_refl _
   ·simp [inL_cons, inL_nil]
  ·refine ⟨Nrm.nil, fun z hz => by simp at hz, fun r => ?_⟩
   rw [inL_nil, eq_comm, Bool.eq_false_iff]
   simp only [Bool.not_false, Bool.and_true, ne_eq, Bool.and_eq_true, decide_eq_true_eq]
   omega
 | x :: t, f, h0, h1, hn, hf => by
  have hx := hn.inr x (by simp)
  have hfx := hf x (by simp)
  have hp := List.pairwise_cons.1 hn.apart
  have ih := notG_all t (x.2 + 1) (by omega) (by omega) hn.tail (fun y hy => by have := hp.1 y hy; omega)
  have hgap : ∀ z ∈ notG (x.2 + 1) t, x.2 + 1 ≤ z.1 := ih.2.1
  unfold notG
  split
  ·rename_i h
   refine ⟨⟨fun z hz => ?_, List.pairwise_cons.2 ⟨fun z hz => ?_, ih.1.apart⟩⟩, fun z hz => ?_, fun r => ?_⟩
   ·rcases List.mem_cons.1 hz with rfl | hz
    ·refine ⟨h0, ?_, ?_⟩ <;> dsimp only <;> omega
    ·exact ih.1.inr z hz
   ·have := hgap z hz
    dsimp only
    omega
   ·rcases List.mem_cons.1 hz with rfl | hz
    ·exact Int.le_refl _
    ·have := hgap z hz; omega
   ·rw [inL_cons, ih.2.2 r, inL_cons, Bool.eq_iff_iff]
    have hh := fun (e : inL t r = true) => nrm_head hn e
    by_cases ht : inL t r = true
    ·have := hh ht
     simp only [ht, Bool.not_true, Bool.and_false, Bool.or_false, Bool.or_true, Bool.and_eq_true, decide_eq_true_eq]
     constructor
     ·rintro ⟨_, h2⟩; omega
     ·intro h'; simp at h'
    ·rw [Bool.not_eq_true] at ht
     simp only [ht, Bool.or_false, Bool.not_false, Bool.and_true, Bool.or_eq_true, Bool.and_eq_true, decide_eq_true_eq, Bool.not_eq_true', Bool.and_eq_false_iff, decide_eq_false_iff_not]
     omega
  ·rename_i h
   refine ⟨ih.1, fun z hz => by have := hgap z hz; omega, fun r => ?_⟩
   rw [ih.2.2 r, inL_cons, Bool.eq_iff_iff]
   by_cases ht : inL t r = true
   ·simp only [ht, Bool.not_true, Bool.and_false, Bool.or_true]
   ·rw [Bool.not_eq_true] at ht
    simp only [ht, Bool.or_false, Bool.not_false, Bool.and_true, Bool.and_eq_true, decide_eq_true_eq, Bool.not_eq_true', Bool.and_eq_false_iff, decide_eq_false_iff_not]
    omega
theorem notL_nrm (l : List (Int × Int)) : Nrm (notL l) := (notG_all (normL l) 0 (by omega) (by omega) (normL_nrm l) (fun x hx => ((normL_nrm l).inr x hx).1)).1
theorem notL_in (l : List (Int × Int)) (r : Int) : inL (notL l) r = (decide (0 ≤ r) && (decide (r ≤ 1114111) && !inL l r)) := by
 unfold notL
 rw [(notG_all (normL l) 0 (by omega) (by omega) (normL_nrm l) (fun x hx => ((normL_nrm l).inr x hx).1)).2.2 r, normL_in]
 unfold hasL
 cases decide (0 ≤ r) <;> cases decide (r ≤ 1114111) <;> simp
/-! Lengths. -/
theorem notG_len : ∀ (l : List (Int × Int)) (f : Int), (notG f l).length ≤ l.length + 1
 | [], f => by unfold notG; split <;> simp
 | x :: t, f => by
  unfold notG
  split
  ·have := notG_len t (x.2 + 1); simp; omega
  ·have := notG_len t (x.2 + 1); simp; omega
theorem notL_len (l : List (Int × Int)) : (notL l).length ≤ l.length + 1 := by
 have := notG_len (normL l) 0
 have := normL_len l
 unfold notL
 omega
end Go.Proofs.YtheheijhijeljaaGreatDoorX
/-
 DERIVED: THE SHELF's CONTRACTS AT THIS DUMP, IN PLAIN WORDS (tools/lay-plain.mjs out of 'YtheheijhijeljaaGreatDoorXShelfCS.lean', which tools/lay-shelf.mjs wrote): THE SAME DECLARATIONS UNDER THE SAME NAMES: 'import', 'namespace', 'open', 'def', 'theorem' AND NOTHING ELSE: no command of the shelf's: FOR A HAND-IN. Each laying: the table of numbers ('.._ren') and one theorem, a field a fact of the dump's own or the kernel's comparison; each contract: ONE APPLICATION.
-/
namespace Go.Proofs
open Go.Shelf
def Tryz.lay_genSplit_ren : Go.Shelf.Ren := ⟨fun | 221 => 139 | 268 => 148 | 138 => 149 | 143 => 150 | 195 => 153 | 197 => 154 | 218 => 155 | 219 => 121 | 260 => 156 | 217 => 53 | 225 => 140 | 224 => 141 | 267 => 142 | 266 => 84 | 314 => 151 | n => n, fun | 9 => 9 | 3 => 3 | 31 => 131 | 4 => 4 | 0 => 0 | 105 => 156 | 21 => 21 | 5 => 5 | 46 => 73 | 119 => 158 | 139 => 161 | 138 => 160 | 146 => 153 | 51 => 126 | n => n, fun | 1 => 0 | 3 => 1 | 4 => 2 | n => n⟩
theorem Tryz.lay_genSplit : Go.Proofs.Lays.n221 Tryz.prog Tryz.lay_genSplit_ren := {
 mixed := by kernel_rfl
 f138 := Tryz.func149.trans (congrArg some (by kernel_rfl))
 f143 := Tryz.func150.trans (congrArg some (by kernel_rfl))
 f195 := Tryz.func153.trans (congrArg some (by kernel_rfl))
 f197 := Tryz.func154.trans (congrArg some (by kernel_rfl))
 f217 := Tryz.func53.trans (congrArg some (by kernel_rfl))
 f218 := Tryz.func155.trans (congrArg some (by kernel_rfl))
 f219 := Tryz.func121.trans (congrArg some (by kernel_rfl))
 f221 := Tryz.func139.trans (congrArg some (by kernel_rfl))
 f224 := Tryz.func141.trans (congrArg some (by kernel_rfl))
 f225 := Tryz.func140.trans (congrArg some (by kernel_rfl))
 f260 := Tryz.func156.trans (congrArg some (by kernel_rfl))
 f266 := Tryz.func84.trans (congrArg some (by kernel_rfl))
 f267 := Tryz.func142.trans (congrArg some (by kernel_rfl))
 f268 := Tryz.func148.trans (congrArg some (by kernel_rfl))
 f314 := Tryz.func151.trans (congrArg some (by kernel_rfl))
 t0 := Tryz.underlying0
 a0 := Tryz.isAgg0
 z0 := Tryz.sizeOf0
 v0 := Tryz.zeroValue0
 t3 := Tryz.underlying3
 a3 := Tryz.isAgg3
 z3 := Tryz.sizeOf3
 v3 := Tryz.zeroValue3
 t4 := Tryz.underlying4
 a4 := Tryz.isAgg4
 z4 := Tryz.sizeOf4
 v4 := Tryz.zeroValue4
 t5 := Tryz.underlying5
 a5 := Tryz.isAgg5
 z5 := Tryz.sizeOf5
 v5 := Tryz.zeroValue5
 t9 := Tryz.underlying9
 a9 := Tryz.isAgg9
 z9 := Tryz.sizeOf9
 v9 := Tryz.zeroValue9
 t21 := Tryz.underlying21
 a21 := Tryz.isAgg21
 z21 := Tryz.sizeOf21
 v21 := Tryz.zeroValue21
 t31 := Tryz.underlying131
 a31 := Tryz.isAgg131
 z31 := Tryz.sizeOf131
 v31 := Tryz.zeroValue131
 t46 := Tryz.underlying73
 a46 := Tryz.isAgg73
 z46 := Tryz.sizeOf73
 v46 := Tryz.zeroValue73
 t51 := Tryz.underlying126
 a51 := Tryz.isAgg126
 z51 := Tryz.sizeOf126
 v51 := Tryz.zeroValue126
 t105 := Tryz.underlying156
 a105 := Tryz.isAgg156
 z105 := Tryz.sizeOf156
 v105 := Tryz.zeroValue156
 t119 := Tryz.underlying158
 a119 := Tryz.isAgg158
 z119 := Tryz.sizeOf158
 t138 := Tryz.underlying160
 a138 := Tryz.isAgg160
 z138 := Tryz.sizeOf160
 v138 := Tryz.zeroValue160
 t139 := Tryz.underlying161
 a139 := Tryz.isAgg161
 z139 := Tryz.sizeOf161
 v139 := Tryz.zeroValue161
 t146 := Tryz.underlying153
 a146 := Tryz.isAgg153
 z146 := Tryz.sizeOf153
 v146 := Tryz.zeroValue153
 g1 := by kernel_rfl
 g3 := by kernel_rfl
 g4 := by kernel_rfl }
def Tryz.lay_idxByte_ren : Go.Shelf.Ren := ⟨fun | 137 => 23 | 217 => 53 | 266 => 84 | n => n, fun | 9 => 9 | 5 => 5 | 3 => 3 | n => n, fun | n => n⟩
theorem Tryz.lay_idxByte : Go.Proofs.Lays.n137 Tryz.prog Tryz.lay_idxByte_ren := {
 mixed := by kernel_rfl
 f137 := Tryz.func23.trans (congrArg some (by kernel_rfl))
 f217 := Tryz.func53.trans (congrArg some (by kernel_rfl))
 f266 := Tryz.func84.trans (congrArg some (by kernel_rfl))
 t3 := Tryz.underlying3
 a3 := Tryz.isAgg3
 z3 := Tryz.sizeOf3
 v3 := Tryz.zeroValue3
 t5 := Tryz.underlying5
 a5 := Tryz.isAgg5
 z5 := Tryz.sizeOf5
 v5 := Tryz.zeroValue5
 t9 := Tryz.underlying9
 a9 := Tryz.isAgg9
 z9 := Tryz.sizeOf9
 v9 := Tryz.zeroValue9 }
def Tryz.lay_idxLite_ren : Go.Shelf.Ren := ⟨fun | 219 => 121 | 217 => 53 | 225 => 140 | 224 => 141 | 267 => 142 | 266 => 84 | 314 => 151 | n => n, fun | 9 => 9 | 3 => 3 | 4 => 4 | 5 => 5 | 46 => 73 | 146 => 153 | 51 => 126 | n => n, fun | 1 => 0 | n => n⟩
theorem Tryz.lay_idxLite : Go.Proofs.Lays.n219 Tryz.prog Tryz.lay_idxLite_ren := {
 mixed := by kernel_rfl
 f217 := Tryz.func53.trans (congrArg some (by kernel_rfl))
 f219 := Tryz.func121.trans (congrArg some (by kernel_rfl))
 f224 := Tryz.func141.trans (congrArg some (by kernel_rfl))
 f225 := Tryz.func140.trans (congrArg some (by kernel_rfl))
 f266 := Tryz.func84.trans (congrArg some (by kernel_rfl))
 f267 := Tryz.func142.trans (congrArg some (by kernel_rfl))
 f314 := Tryz.func151.trans (congrArg some (by kernel_rfl))
 t3 := Tryz.underlying3
 a3 := Tryz.isAgg3
 z3 := Tryz.sizeOf3
 v3 := Tryz.zeroValue3
 t4 := Tryz.underlying4
 a4 := Tryz.isAgg4
 z4 := Tryz.sizeOf4
 v4 := Tryz.zeroValue4
 t5 := Tryz.underlying5
 a5 := Tryz.isAgg5
 z5 := Tryz.sizeOf5
 v5 := Tryz.zeroValue5
 t9 := Tryz.underlying9
 a9 := Tryz.isAgg9
 z9 := Tryz.sizeOf9
 v9 := Tryz.zeroValue9
 t46 := Tryz.underlying73
 a46 := Tryz.isAgg73
 z46 := Tryz.sizeOf73
 v46 := Tryz.zeroValue73
 t51 := Tryz.underlying126
 a51 := Tryz.isAgg126
 z51 := Tryz.sizeOf126
 v51 := Tryz.zeroValue126
 t146 := Tryz.underlying153
 a146 := Tryz.isAgg153
 z146 := Tryz.sizeOf153
 v146 := Tryz.zeroValue153
 g1 := by kernel_rfl }
def Tryz.lay_idxFuncNamed_ren : Go.Shelf.Ren := ⟨fun | 6 => 85 | n => n, fun | 22 => 78 | 23 => 105 | 25 => 106 | 3 => 3 | 0 => 0 | 4 => 4 | n => n, fun | n => n⟩
theorem Tryz.lay_idxFuncNamed : Go.Proofs.SlLaysH0.n6 Tryz.prog Tryz.lay_idxFuncNamed_ren := {
 mixed := by kernel_rfl
 f6 := ⟨Tryz.f85.name, by decide, Tryz.func85.trans (congrArg some (by kernel_rfl))⟩
 t0 := Tryz.underlying0
 a0 := Tryz.isAgg0
 z0 := Tryz.sizeOf0
 v0 := Tryz.zeroValue0
 t3 := Tryz.underlying3
 a3 := Tryz.isAgg3
 z3 := Tryz.sizeOf3
 v3 := Tryz.zeroValue3
 t4 := Tryz.underlying4
 a4 := Tryz.isAgg4
 z4 := Tryz.sizeOf4
 v4 := Tryz.zeroValue4
 t22 := Tryz.underlying78
 a22 := Tryz.isAgg78
 z22 := Tryz.sizeOf78
 v22 := Tryz.zeroValue78
 t25 := Tryz.underlying106
 a25 := Tryz.isAgg106
 z25 := Tryz.sizeOf106
 v25 := Tryz.zeroValue106 }
def Tryz.lay_cut_ren : Go.Shelf.Ren := ⟨fun | 145 => 67 | 220 => 97 | 219 => 121 | 217 => 53 | 225 => 140 | 224 => 141 | 267 => 142 | 266 => 84 | 314 => 151 | n => n, fun | 9 => 9 | 4 => 4 | 59 => 89 | 3 => 3 | 5 => 5 | 46 => 73 | 146 => 153 | 51 => 126 | n => n, fun | 1 => 0 | n => n⟩
theorem Tryz.lay_cut : Go.Proofs.Lays.n145 Tryz.prog Tryz.lay_cut_ren := {
 mixed := by kernel_rfl
 f145 := Tryz.func67.trans (congrArg some (by kernel_rfl))
 f217 := Tryz.func53.trans (congrArg some (by kernel_rfl))
 f219 := Tryz.func121.trans (congrArg some (by kernel_rfl))
 f220 := Tryz.func97.trans (congrArg some (by kernel_rfl))
 f224 := Tryz.func141.trans (congrArg some (by kernel_rfl))
 f225 := Tryz.func140.trans (congrArg some (by kernel_rfl))
 f266 := Tryz.func84.trans (congrArg some (by kernel_rfl))
 f267 := Tryz.func142.trans (congrArg some (by kernel_rfl))
 f314 := Tryz.func151.trans (congrArg some (by kernel_rfl))
 t3 := Tryz.underlying3
 a3 := Tryz.isAgg3
 z3 := Tryz.sizeOf3
 v3 := Tryz.zeroValue3
 t4 := Tryz.underlying4
 a4 := Tryz.isAgg4
 z4 := Tryz.sizeOf4
 v4 := Tryz.zeroValue4
 t5 := Tryz.underlying5
 a5 := Tryz.isAgg5
 z5 := Tryz.sizeOf5
 v5 := Tryz.zeroValue5
 t9 := Tryz.underlying9
 a9 := Tryz.isAgg9
 z9 := Tryz.sizeOf9
 v9 := Tryz.zeroValue9
 t46 := Tryz.underlying73
 a46 := Tryz.isAgg73
 z46 := Tryz.sizeOf73
 v46 := Tryz.zeroValue73
 t51 := Tryz.underlying126
 a51 := Tryz.isAgg126
 z51 := Tryz.sizeOf126
 v51 := Tryz.zeroValue126
 t59 := Tryz.underlying89
 a59 := Tryz.isAgg89
 z59 := Tryz.sizeOf89
 v59 := Tryz.zeroValue89
 t146 := Tryz.underlying153
 a146 := Tryz.isAgg153
 z146 := Tryz.sizeOf153
 v146 := Tryz.zeroValue153
 g1 := by kernel_rfl }
end Go.Proofs
namespace Go.Proofs.YtheheijhijeljaaGreatDoorX
open Go.RowKit Go.Proofs.YtheheijhijeljaaGreatDoorW.PrintWords Go.Proofs.YtheheijhijeljaaGreatDoorW.PrintLast
set_option linter.unusedVariables false
set_option linter.unusedSimpArgs false
/-- class.number: its value. -/
def hexes : List UInt8 := [48, 49, 50, 51, 52, 53, 54, 55, 56, 57, 65, 66, 67, 68, 69, 70]
def numStep (n : Int) (c : UInt8) : Int := wrap64 (wrap64 (16 * n) + Lib.indexByte hexes c)
def numV (s : ByteArray) : Int := s.data.toList.foldl numStep 0
set_option maxHeartbeats 1000000 in
theorem number_at (s : ByteArray) (hs : s.size ≤ 1000000) (w : World) : Calls Tryz.prog 119 #[.string s] w fun e w' => e = .returned (.int .i64 (numV s)) ∧ w' = w := by
 have HI := Aside0.mk (fun (c : Int) => Any.strings_IndexByte Tryz.lay_idxByte ⟨#[48, 49, 50, 51, 52, 53, 54, 55, 56, 57, 65, 66, 67, 68, 69, 70]⟩ c w)
 have HS := Aside0.mk hs
 go_enter Tryz.func119, Tryz.ntmps119
 go_wp2_with fail
 go_loopg [3, 7] s.size (fun gq t3 t7 wr => ∃ i : Nat, i ≤ s.size ∧ s.size - i ≤ gq ∧ t3 = .int .i64 ((s.data.toList.take i).foldl numStep 0) ∧ t7 = .int .i64 i ∧ Aside0 (wr = w))
 case atStart => exact ⟨0, Nat.zero_le _, Nat.le_refl _, rfl, rfl, ⟨rfl⟩⟩
 case round =>
  obtain ⟨i, hi, hgq, rfl, rfl, hw⟩ := hrel
  have hw := hw.out
  subst hw
  by_cases hlt : i < s.size
  ·have hl : i < s.data.toList.length := by simpa using hlt
   have e : (s.data.toList.take (i + 1)).foldl numStep 0 = numStep ((s.data.toList.take i).foldl numStep 0) (s.data.toList[i]) := by
    rw [List.take_succ_eq_append_getElem hl, List.foldl_append]
    rfl
   have HE := Aside0.mk e
   clear e
   generalize (s.data.toList.take i).foldl numStep 0 = n at HE ⊢
   go_wp2_with fail
   refine (HI.out _).mono ?_
   rintro e w' ⟨rfl, rfl⟩
   have hback : ((s[i].toNat : Int)).toNat.toUInt8 = s[i] := by simp
   go_wp2_with fail
   go_roundg (s.size - (i + 1))
   case measure => omega
   case rel =>
    refine ⟨i + 1, by omega, Nat.le_refl _, ?_, by rw [show ((i + 1 : Nat) : Int) = (i : Int) + 1 by omega], ⟨rfl⟩⟩
    rw [HE.out]
    rfl
  ·obtain rfl : i = s.size := by omega
   have e : (s.data.toList.take s.size).foldl numStep 0 = numV s := by
    rw [List.take_of_length_le (show s.data.toList.length ≤ s.size from Nat.le_of_eq Array.length_toList)]
    rfl
   rw [e]
   go_wp2_with fail
   go_ret
   exact ⟨rfl, rfl⟩
/-- strings.Cut at a hyphen. -/
def cutV (s : ByteArray) : ByteArray × ByteArray × Bool := if 0 ≤ Lib.indexByte s.data.toList 45 then (s.extract 0 (Lib.indexByte s.data.toList 45).toNat, s.extract ((Lib.indexByte s.data.toList 45).toNat + 1) s.size, true) else (s, ⟨#[]⟩, false)
theorem index_lt (l : List UInt8) (c : UInt8) : Lib.indexByte l c < l.length := by
 induction l with
 | nil => unfold Lib.indexByte; decide
 | cons b l ih =>
  unfold Lib.indexByte
  rw [List.length_cons]
  split
  ·omega
  split
  ·omega
  ·omega
set_option maxHeartbeats 1000000 in
theorem cut_at (s : ByteArray) (hs : s.size ≤ 1000000) (w : World) : Calls Tryz.prog 67 #[.string s, .string ⟨#[45]⟩] w fun e w' => e = .returned (.tuple #[.string (cutV s).1, .string (cutV s).2.1, .bool (cutV s).2.2]) ∧ ∃ m, w' = w.drewN m := by
 have HI := Aside0.mk (Any.stringslite_Index_one Tryz.lay_idxLite s 45 w)
 have hlt := index_lt s.data.toList 45
 rw [show s.data.toList.length = s.size from Array.length_toList] at hlt
 obtain ⟨r, hr⟩ : ∃ r, r = cutV s := ⟨_, rfl⟩
 rw [← hr]
 have hin : Calls Tryz.prog 97 #[.string s, .string ⟨#[45]⟩] w fun e w' => e = .returned (.tuple #[.string r.1, .string r.2.1, .bool r.2.2]) ∧ ∃ m, w' = w.drewN m := by
  unfold cutV at hr
  generalize Lib.indexByte s.data.toList 45 = i at HI hlt hr
  by_cases h0 : 0 ≤ i
  ·rw [if_pos h0] at hr
   subst hr
   obtain ⟨j, rfl⟩ : ∃ j : Nat, i = j := ⟨i.toNat, by omega⟩
   have hj : j < s.size := by omega
   have hj2 : j + 1 ≤ s.size := by omega
   go_enter Tryz.func97, Tryz.ntmps97
   go_wp2_with fail
   refine HI.out.mono ?_
   rintro e w' ⟨rfl, rfl⟩
   go_wp2_with fail
   go_quiet (fail)
   go_wp2_with fail
   go_ret3
   exact ⟨by simp, _, rfl⟩
  ·rw [if_neg h0] at hr
   subst hr
   go_enter Tryz.func97, Tryz.ntmps97
   go_wp2_with fail
   refine HI.out.mono ?_
   rintro e w' ⟨rfl, rfl⟩
   go_wp2_with fail
   go_ret3
   exact ⟨rfl, 0, rfl⟩
 clear hr HI hlt
 go_enter Tryz.func67, Tryz.ntmps67
 go_wp2_with fail
 refine hin.mono ?_
 rintro e w' ⟨rfl, m, rfl⟩
 go_wp2_with fail
 go_ret3
 exact ⟨rfl, _, rfl⟩
/-- strings.Split at a blank. -/
def splitN (s : ByteArray) : Nat := Lib.countB s ⟨#[32]⟩ + 1
def splitV (s : ByteArray) : List ByteArray := Lib.splitB ⟨#[32]⟩ 0 (Lib.countB s ⟨#[32]⟩) s
theorem split_len (s : ByteArray) : (splitV s).length = splitN s := Lib.splitB_all ⟨#[32]⟩ (by decide) 0 _ s rfl
theorem info_str : (Tryz.prog.info? 9).map (fun i => (i.zero, i.size, i.bytes)) = some (some (.string ByteArray.empty), 1, 16) := by kernel_rfl
set_option maxHeartbeats 1000000 in
theorem split_at (s : ByteArray) (hs : s.size < 4294967281) (w : World) : Calls Tryz.prog 118 #[.string s, .string ⟨#[32]⟩] w fun e w' =>
  e = .returned (.slice (some ⟨w.heap.size, 0, none⟩) (splitN s) (splitN s)) ∧ w' = w.alloc (.cells ((splitV s).map Value.string).toArray 9) := by
 have h1 : 1 ≤ (⟨#[32]⟩ : ByteArray).size := by decide
 have hle := Lib.countB_le ⟨#[32]⟩ h1 s.size s (Nat.le_refl _)
 have hlen := split_len s
 have c := Any.strings_genSplit_core Tryz.lay_genSplit info_str s ⟨#[32]⟩ 0 (-1) (splitN s) w hs h1 (Nat.zero_le _)
  (fun x c hx => by
   refine (Any.strings_Index_one { Tryz.lay_genSplit with } x 32 _).mono fun e w' ⟨he, hw⟩ => ⟨?_, hw⟩
   rw [he, ← Lib.index_one])
  (by
   refine (Any.strings_Count_one { Tryz.lay_genSplit with } s 32 w).mono fun e w' ⟨he, hw⟩ => ⟨?_, hw⟩
   rw [he]
   show _ = Ending.returned (Value.int .i64 ((Lib.count s.data.toList [32] : Nat) : Int))
   rw [Lib.count_one]
   rfl)
  (by decide) (by decide) (by unfold splitN; rw [if_pos (by decide)]; omega)
 rw [show splitN s - 1 = Lib.countB s ⟨#[32]⟩ by unfold splitN; omega] at c
 change Calls _ _ _ _ (fun e w' => e = .returned (.slice (some ⟨w.heap.size, 0, none⟩) (splitV s).length (splitN s)) ∧ w' = w.alloc (.cells (Lib.cellsOf (splitV s) (splitN s)) _)) at c
 rw [split_len] at c
 have e2 : Lib.cellsOf (splitV s) (splitN s) = ((splitV s).map Value.string).toArray := by rw [← split_len]; exact Lib.cellsOf_full _
 rw [e2] at c
 have C := Aside0.mk c
 clear c e2 hlen hle
 go_enter Tryz.func118, Tryz.ntmps118
 go_wp2_with fail
 refine C.out.mono ?_
 rintro e w' ⟨rfl, rfl⟩
 go_wp2_with fail
 go_ret
 exact ⟨rfl, rfl⟩
end Go.Proofs.YtheheijhijeljaaGreatDoorX
namespace Go.Proofs.YtheheijhijeljaaGreatDoorX
open Go.RowKit Go.Shelf Go.Proofs.YtheheijhijeljaaGreatDoorW.PrintWords Go.Proofs.YtheheijhijeljaaGreatDoorW.PrintLast
set_option linter.unusedVariables false
set_option linter.unusedSimpArgs false
attribute [local go_sem] Oper.semAt_some
abbrev encRgA (x : Int × Int) : Array Value := #[.agg #[.int .i64 x.1, .int .i64 x.2]]
/-- Rows of strings stay. -/
def KeepStr (W W' : World) : Prop := ∀ (k : Nat) (cs : Array Value) (fr : Nat × Nat), W.heap[k]? = some (.cells cs 9 fr) → W'.heap[k]? = some (.cells cs 9 fr)
theorem KeepStr.trans {A B C : World} (h : KeepStr A B) (k : KeepStr B C) : KeepStr A C := fun i cs fr hi => k i cs fr (h i cs fr hi)
theorem KeepStr.of_below {A B : World} (h : Below A.heap.size A B) : KeepStr A B := fun i cs fr hi => (h.block i (Array.getElem?_eq_some_iff.1 hi).1).trans hi
def pieceV (s : ByteArray) : Int × Int := (numV (cutV s).1, numV (if (cutV s).2.2 then (cutV s).2.1 else (cutV s).1))
def piecesV (s : ByteArray) : List (Int × Int) := (splitV s).map pieceV
theorem cut_size (s : ByteArray) : (cutV s).1.size ≤ s.size ∧ (cutV s).2.1.size ≤ s.size := by
 unfold cutV
 split
 ·simp only [ByteArray.size_extract]; omega
 ·exact ⟨Nat.le_refl _, Nat.zero_le _⟩
/-- Each piece is no longer than the text. -/
def SmallPieces (s : ByteArray) : Prop := s.size ≤ 1000000 ∧ ∀ x ∈ splitV s, x.size ≤ 1000000
set_option maxRecDepth 100000 in
set_option maxHeartbeats 2000000 in
theorem pieces1_in (n : Nat) (hn : 1 ≤ n) (l Bn : Nat) (s : ByteArray) (hs : SmallPieces s) (hN : splitN s ≤ 1000000) (J Jx : List (Int × Int) → World → Prop) (W : World) (hJ : AbidesFrom W.heap.size J)
  (hY : ∀ pre x W1, J pre W1 → pre.length < splitN s → YieldAt Fence.wide (n - 1) Tryz.prog l (encRgA x) W1 fun e W' =>
   (e = .returned (.bool true) ∧ J (pre ++ [x]) W' ∧ KeepStr W1 W') ∨ (e = .returned (.bool false) ∧ Jx (pre ++ [x]) W'))
  (hBn : W.cell? ⟨Bn, 0, none⟩ = some (.string s)) (h0 : J [] W) :
  CallsIn Fence.wide n Tryz.prog 117 #[.func (.yield l) #[] #[], .pointer (some ⟨Bn, 0, none⟩)] W fun e W' => (∃ v, e = .returned v) ∧
   ((∃ ys, ys = piecesV s ∧ J ys W') ∨ (∃ pre, pre <+: piecesV s ∧ Jx pre W')) := by
 have HC := Aside0.mk (fun (x : ByteArray) (hx : x.size ≤ 1000000) (w : World) => callsIn_wide (n := n - 1).2 (cut_at x hx w))
 have HD := Aside0.mk (fun (x : ByteArray) (hx : x.size ≤ 1000000) (w : World) => callsIn_wide (n := n - 1).2 (number_at x hx w))
 have HS := Aside0.mk (callsIn_wide (n := n - 1).2 (split_at s (by have := hs.1; omega) W))
 refine callsIn_of_wp Tryz.func117 rfl trivial ?_ rfl
 simp only [Tryz.ntmps117, List.size_toArray, List.length_cons, List.length_nil, Nat.reduceAdd, Nat.reduceSub, Array.replicate_succ, Array.replicate_zero, List.push_toArray, List.append_toArray, List.nil_append, List.cons_append]
 gi_wp2_with fail
 refine ⟨trivial, HS.out.mono ?_⟩
 rintro e w' ⟨rfl, rfl⟩
 have HR := Aside0.mk (heap_alloc_new W (.cells ((splitV s).map Value.string).toArray 9))
 have HJ0 := Aside0.mk (hJ _ _ _ none h0 (World.grownBy_alloc W (.cells ((splitV s).map Value.string).toArray 9) none) (fun r e => by cases e))
 generalize W.alloc (.cells ((splitV s).map Value.string).toArray 9) = W1 at HR HJ0 ⊢
 have HJ := Aside0.mk hJ
 have HY := Aside0.mk hY
 have HPL := Aside0.mk (show (piecesV s).length = splitN s by unfold piecesV; rw [List.length_map, split_len])
 have hsn : 1 ≤ splitN s := by unfold splitN; omega
 clear hBn h0 hJ hY HS
 obtain ⟨N, hNN⟩ : ∃ N, N = splitN s := ⟨_, rfl⟩
 rw [← hNN] at hN hsn HPL HY ⊢
 generalize W.heap.size = b at HR ⊢
 gi_wp2_with fail
 gi_loopw [11] (fun i wr => ∃ k : Nat, k ≤ N ∧ i = .int .i64 k ∧ Aside0 (J ((piecesV s).take k) wr) ∧ Aside0 (wr.heap[b]? = some (.cells ((splitV s).map Value.string).toArray 9 (0, 0)))) (fun i _ => N - (intOf i).toNat)
 case atStart => exact ⟨0, Nat.zero_le _, rfl, HJ0, HR⟩
 case round =>
  clear HJ0 HR
  obtain ⟨k, hk, rfl, HJ1, HR⟩ := hrel
  by_cases hlt : k < N
  ·have hkl : k < (splitV s).length := by rw [split_len, ← hNN]; exact hlt
   have hkp : k < (piecesV s).length := by rw [HPL.out]; exact hlt
   have hc : wr.cell? ⟨b, k, none⟩ = some (.string (splitV s)[k]) := (blk_cell HR.out k).trans (by simp [hkl])
   have hx := hs.2 _ (List.getElem_mem hkl)
   have HP := Aside0.mk (show (piecesV s).take (k + 1) = (piecesV s).take k ++ [pieceV (splitV s)[k]] by
    rw [List.take_succ_eq_append_getElem hkp]
    simp [piecesV])
   generalize (splitV s)[k] = x at hc hx HP
   have hz := cut_size x
   gi_wp2_with fail
   refine ⟨trivial, (HC.out x hx wr).mono ?_⟩
   rintro e w' ⟨rfl, m, rfl⟩
   have HJ2 := Aside0.mk (HJ.out _ _ _ none HJ1.out (grown_of_below (pw_below_drewN (Below.refl _ wr) m) none) (fun r e => by cases e))
   have HR2 := Aside0.mk (show (wr.drewN m).heap[b]? = some (.cells ((splitV s).map Value.string).toArray 9 (0, 0)) from HR.out)
   have hpv : pieceV x = (numV (cutV x).1, numV (if (cutV x).2.2 then (cutV x).2.1 else (cutV x).1)) := rfl
   generalize wr.drewN m = w2 at HJ2 HR2 ⊢
   clear hc HJ1 HR
   generalize cutV x = cv at hz hpv ⊢
   obtain ⟨lo, hi, two⟩ := cv
   simp only at hz hpv
   have hzl : lo.size ≤ 1000000 := by omega
   have hzh : (if two = true then hi else lo).size ≤ 1000000 := by split <;> omega
   obtain ⟨fn, tmps, assign, body, hy, hR⟩ := HY.out _ (pieceV x) w2 HJ2.out (by rw [List.length_take]; omega)
   rw [← HP.out] at hR
   have HRD := Aside0.mk hR
   clear hR hz HC
   cases two with
   | true =>
    rw [show pieceV x = (numV lo, numV hi) from hpv] at hy
    rw [if_pos rfl] at hzh
    dsimp only [encRgA] at hy
    gi_wp2_with fail
    refine ⟨trivial, (HD.out lo hzl w2).mono ?_⟩
    rintro e w' ⟨rfl, rfl⟩
    gi_wp2_with fail
    refine ⟨trivial, (HD.out hi hzh w').mono ?_⟩
    rintro e w'' ⟨rfl, rfl⟩
    gi_wp2_with fail
    refine HRD.out.mono ?_
    rintro e W3 (⟨rfl, hJ3, hk3⟩ | ⟨rfl, hJx3⟩)
    ·gi_wp2
     go_roundw
     case rel => exact ⟨k + 1, by omega, by simp, ⟨hJ3⟩, ⟨hk3 _ _ _ HR2.out⟩⟩
     case measure => simp [intOf]; omega
    ·gi_wp2
     refine bodyPost_ret (results_none rfl _ _ _) rfl ?_
     exact ⟨⟨_, rfl⟩, .inr ⟨_, List.take_prefix _ _, hJx3⟩⟩
   | false =>
    rw [show pieceV x = (numV lo, numV lo) from hpv] at hy
    rw [if_neg (by decide)] at hzh
    dsimp only [encRgA] at hy
    gi_wp2_with fail
    refine ⟨trivial, (HD.out lo hzl w2).mono ?_⟩
    rintro e w' ⟨rfl, rfl⟩
    gi_wp2_with fail
    refine ⟨trivial, (HD.out lo hzh w').mono ?_⟩
    rintro e w'' ⟨rfl, rfl⟩
    gi_wp2_with fail
    refine HRD.out.mono ?_
    rintro e W3 (⟨rfl, hJ3, hk3⟩ | ⟨rfl, hJx3⟩)
    ·gi_wp2
     go_roundw
     case rel => exact ⟨k + 1, by omega, by simp, ⟨hJ3⟩, ⟨hk3 _ _ _ HR2.out⟩⟩
     case measure => simp [intOf]; omega
    ·gi_wp2
     refine bodyPost_ret (results_none rfl _ _ _) rfl ?_
     exact ⟨⟨_, rfl⟩, .inr ⟨_, List.take_prefix _ _, hJx3⟩⟩
  ·obtain rfl : k = N := by omega
   gi_wp2
   go_end0
   exact ⟨⟨_, rfl⟩, .inl ⟨_, rfl, by have := HJ1.out; rwa [List.take_of_length_le (by rw [HPL.out]; exact Nat.le_refl _)] at this⟩⟩
end Go.Proofs.YtheheijhijeljaaGreatDoorX
namespace Go.Proofs.YtheheijhijeljaaGreatDoorX
open Go.RowKit Go.Shelf Go.Proofs.YtheheijhijeljaaGreatDoorW.PrintWords Go.Proofs.YtheheijhijeljaaGreatDoorW.PrintLast
set_option linter.unusedVariables false
set_option linter.unusedSimpArgs false
attribute [local go_sem] Oper.semAt_some
abbrev Nm := ByteArray × ByteArray
def kNm : Kd Nm := Kd.pair Kd.string Kd.string
def encNm (x : Nm) : List Value := [.string x.1, .string x.2]
theorem kNm_K {w : World} {x : Nm} {cs : List Value} (h : kNm.K w x cs) : cs = encNm x := by
 obtain ⟨_, _, rfl, rfl, rfl⟩ := h
 rfl
def isNm (name : ByteArray) (x : Nm) : Bool := x.1.toList == name.toList
/-- A row of names: its cells, address and all. -/
theorem nm_cells {w : World} {A : Option Addr} {l : List Nm} (h : Kd.C kNm w A l.length l) (hp : 0 < l.length) :
  ∃ b off, A = some ⟨b, off, none⟩ ∧ b < w.heap.size ∧ l.length ≤ 9223372036854775807 ∧ ∀ j, j < l.length → ∀ i v, (encNm l[j]!)[i]? = some v → w.cell? ⟨b, off + j * 2 + i, none⟩ = some v := by
 obtain ⟨_, hn, hc0⟩ := h
 obtain ⟨ad, rfl, hc⟩ := hc0 hp
 clear hc0
 obtain ⟨b, off, spot⟩ := ad
 have key : ∀ j (hj : j < l.length) i v, (encNm l[j])[i]? = some v → w.cell? ((⟨b, off, spot⟩ : Addr).add (j * 2 + i)) = some v := by
  intro j hj i v hi
  obtain ⟨c, _, hk, hcell⟩ := hc j l[j] (List.getElem?_eq_getElem hj)
  obtain rfl := kNm_K hk
  exact hcell i v hi
 have h0 := key 0 hp 0 _ rfl
 have hs : spot = none := by
  rw [show 0 * 2 + 0 = 0 from rfl] at h0
  simp only [Addr.add, if_true, World.cell?] at h0
  cases spot with
  | none => rfl
  | some q =>
   revert h0
   split
   ·simp
   ·simp
 subst hs
 have hadd : ∀ n, (⟨b, off, none⟩ : Addr).add n = ⟨b, off + n, none⟩ := fun n => by unfold Addr.add; split <;> simp_all
 refine ⟨b, off, rfl, ?_, hn, fun j hj i v hi => ?_⟩
 ·have := World.block_lt_of_cell? w _ h0
  rwa [hadd] at this
 ·have := key j hj i v (by rw [getElem!_pos l j hj] at hi; exact hi)
  rwa [hadd, ← Nat.add_assoc] at this
set_option maxHeartbeats 1000000 in
theorem pred_nm (name : ByteArray) (B : Nat) (w : World) (hB : B < w.heap.size) (hcell : w.cell? ⟨B, 0, none⟩ = some (.string name)) :
  PredBelow Tryz.prog 86 #[.pointer (some ⟨B, 0, none⟩)] (fun x => .agg (encNm x).toArray) (isNm name) w := fun W x hb => by
 have hc : W.cell? ⟨B, 0, none⟩ = some (.string name) := (hb.cell (p := ⟨B, 0, none⟩) hB).trans hcell
 have hBW : B < W.heap.size := Nat.lt_of_lt_of_le hB hb.size
 have hne : B ≠ W.heap.size := by omega
 show Calls Tryz.prog 86 #[.agg #[.string x.1, .string x.2], .pointer (some ⟨B, 0, none⟩)] W _
 have HB := Aside0.mk hb
 clear hb
 obtain ⟨a, b⟩ := x
 unfold isNm
 dsimp only
 go_enter Tryz.func86, Tryz.ntmps86
 go_wp2
 go_ret
 exact ⟨rfl, HB.out.alloc HB.out.size _⟩
/-- Where a name stands. -/
def idxNm (l : List Nm) (name : ByteArray) : Int := Lib.idxBy (fun _ y => isNm name y) l default
theorem idx_nm (l : List Nm) (name : ByteArray) : (idxNm l name = -1 ∧ ∀ x ∈ l, isNm name x = false) ∨ ∃ k, ∃ h : k < l.length, idxNm l name = k ∧ isNm name l[k] = true ∧ ∀ j, ∀ hj : j < k, isNm name (l[j]'(by omega)) = false := by
 cases hf : l.findIdx? (isNm name) with
 | none =>
  left
  have hn := List.findIdx?_eq_none_iff.1 hf
  refine ⟨?_, fun x hx => by simpa using hn x hx⟩
  exact Lib.idxByFrom_miss _ _ _ 0 (fun j hj => by rw [getElem!_pos l j hj]; simpa using hn _ (List.getElem_mem hj))
 | some k =>
  right
  obtain ⟨hk, h1, h2⟩ := List.findIdx?_eq_some_iff_getElem.1 hf
  refine ⟨k, hk, ?_, h1, fun j hj => by simpa using h2 j hj⟩
  have := Lib.idxByFrom_hit (fun _ y => isNm name y) default l k 0 hk (by rw [getElem!_pos l k hk]; exact h1) (fun j hj => by rw [getElem!_pos l j (by omega)]; simpa using h2 j hj)
  unfold idxNm Lib.idxBy
  rw [this]
  simp
set_option maxHeartbeats 1000000 in
theorem index_nm (A : Option Addr) (c : Nat) (l : List Nm) (hp : 0 < l.length) (name : ByteArray) (w : World) (B : Nat) (hB : B < w.heap.size) (hcell : w.cell? ⟨B, 0, none⟩ = some (.string name)) (h : Kd.C kNm w A l.length l) :
  Calls Tryz.prog 85 #[.slice A l.length c, .func (.func 86) #[] #[.pointer (some ⟨B, 0, none⟩)]] w fun e w' => e = .returned (.int .i64 (idxNm l name)) ∧ Below w.heap.size w w' := by
 obtain ⟨b, off, rfl, hb, hn, hc⟩ := nm_cells h hp
 have eg : ∀ args w, (callFunc 86 args).run Tryz.prog w = .ok (.enter 86 args) w := enters_of Tryz.func86 (by kernel_rfl) rfl
 have hcon := AnyQ.slices_IndexFunc Tryz.lay_idxFuncNamed 2 Tryz.isAgg105 Tryz.sizeOf105 encNm (fun _ => rfl) (isNm name) 86 #[.pointer (some ⟨B, 0, none⟩)] eg b off l.length c l w (pred_nm name B w hB hcell) (Nat.le_refl _) hn hb hc
 change Calls Tryz.prog 85 _ _ _ at hcon
 rw [List.take_length] at hcon
 exact hcon
theorem pieces_at (s : ByteArray) (w : World) : Calls Tryz.prog 87 #[.string s] w fun e w' => e = .returned (.func (.func 117) #[] #[.pointer (some ⟨w.heap.size, 0, none⟩)]) ∧ w' = w.alloc (.cells #[.string s] 9) := by
 go_enter Tryz.func87, Tryz.ntmps87
 go_wp2
 go_ret
 exact ⟨rfl, rfl⟩
theorem keepStr_b (w : World) : ∀ (W : World) (l : Nat) (o o' : Obj), w.heap.size ≤ l → W.heap[l]? = some o → o.isCells = false → o.isWalk = false → KeepStr W (W.putObj l o') := fun W l o o' _ hl hc _ k cs fr hk => by
 have hne : k ≠ l := fun e => by subst e; rw [hk] at hl; cases hl; cases hc
 rw [World.putObj_heap_other (fun e => hne e)]
 exact hk
theorem pieces_stops (n : Nat) (hn : 1 ≤ n) (Bn : Nat) (s : ByteArray) (hs : SmallPieces s) (hN : splitN s ≤ 1000000) (w : World) (hBn : Bn < w.heap.size) (hc : w.cell? ⟨Bn, 0, none⟩ = some (.string s)) :
  SeqStopsK Fence.wide n Tryz.prog 117 #[.pointer (some ⟨Bn, 0, none⟩)] encRgA KeepStr (fun ys => ys = piecesV s) (fun pre => pre <+: piecesV s) (splitN s) w := fun l J Jx W hW hJ _ hY h0 =>
 pieces1_in n hn l Bn s hs hN J Jx W hJ hY ((hW.cell (p := ⟨Bn, 0, none⟩) hBn).trans hc) h0
theorem keepStr_app {W w1 : World} {n₀ BL k : Nat} {v v' : Value} {xs : List Value} {tmp : Obj} (hv : Boxed W BL 26 v) (hrow : W.ownsRow n₀ 36 2 v k xs) (hgrow : (W.alloc tmp).grownBy w1 v.ownBlock) : KeepStr W (w1.setCell ⟨BL, 0, none⟩ v') := fun j cs fr hj => by
 have hlt : j < W.heap.size := (Array.getElem?_eq_some_iff.1 hj).1
 have hne : j ≠ BL := fun e => by subst e; rw [show W.heap[j]? = _ from hv] at hj; simp at hj
 have hno : some j ≠ v.ownBlock := fun e => by
  rcases hrow.2 with ⟨rfl, _⟩ | ⟨g, cap, cur, rfl, _, hgb, _⟩
  ·simp [Value.ownBlock] at e
  ·obtain rfl : j = g := by simpa [Value.ownBlock] using e
   rw [hgb] at hj
   simp at hj
 have h1 : (W.alloc tmp).heap[j]? = some (.cells cs 9 fr) := (Below.heap_alloc W tmp j hlt).trans hj
 rw [Below.heap_setCell w1 ⟨BL, 0, none⟩ v' j hne]
 exact (hgrow.block j (by simp; omega) hno).trans h1
theorem boxRg_own {β : Type} (B : Nat) (f : β → Array Value) : Own (fun s W => W.heap[B]? = some (.cells (f s) 36 (0, 0))) := fun s X Y row hs hg hrow => by
 refine (hg.block B (Array.getElem?_eq_some_iff.1 hs).1 (fun e => ?_)).trans hs
 obtain ⟨o, ho, hc⟩ := hrow B e.symm
 rw [hs] at ho
 cases ho
 cases hc
/-- What is found: a set's list, or why there is none. -/
def findV (nf : List (Int × Int) → List (Int × Int)) (l : List Nm) (name : ByteArray) : List (Int × Int) × Int := match l.find? (isNm name) with
 | none => ([], 70)
 | some x => (nf (piecesV x.2), 0)
def FindPost (nf : List (Int × Int) → List (Int × Int)) (l : List Nm) (name : ByteArray) (w : World) (e : Ending) (w' : World) : Prop := ∃ v, e = .returned (.tuple #[v, .int .i64 (findV nf l name).2]) ∧ Kd.R kRg 36 w' w.heap.size (fun _ => True) v (findV nf l name).1 ∧ Below w.heap.size w w'
set_option maxRecDepth 100000 in
set_option maxHeartbeats 4000000 in
theorem find_any {nf : List (Int × Int) → List (Int × Int)} {P : List (Int × Int) → Prop} (hN : NormAt nf P) (A : Option Addr) (c : Nat) (l : List Nm) (name : ByteArray) (w : World) (hC : Kd.C kNm w A l.length l) (hc : l.length ≤ c) (hp : 0 < l.length)
  (hg : ∀ x ∈ l, SmallPieces x.2 ∧ splitN x.2 ≤ 1000 ∧ P (piecesV x.2)) : Calls Tryz.prog 56 #[.slice A l.length c, .string name] w (FindPost nf l name w) := by
 refine (callsIn_wide (n := 9)).1 ?_
 have hal := (Below.refl _ w).alloc (Nat.le_refl _) (.cells #[.string name] 9)
 have HIX := Aside0.mk (callsIn_wide (n := 8).2 (index_nm A c l hp name (w.alloc (.cells #[.string name] 9)) w.heap.size (by simp) ((blk_cell (heap_alloc_new w (.cells #[.string name] 9)) 0).trans rfl) (Kd.C_below hC hal)))
 have HPO := Aside0.mk (show ∀ e w', FindPost nf l name w e w' = (∃ v, e = .returned (.tuple #[v, .int .i64 (findV nf l name).2]) ∧ Kd.R kRg 36 w' w.heap.size (fun _ => True) v (findV nf l name).1 ∧ Below w.heap.size w w') from fun _ _ => rfl)
 have HX := Aside0.mk (idx_nm l name)
 generalize idxNm l name = ix at HIX HX
 have HAL := Aside0.mk hal
 clear hal
 refine callsIn_of_wp_marks Tryz.func56 rfl trivial ?_ rfl
 simp only [Tryz.ntmps56, List.size_toArray, List.length_cons, List.length_nil, Nat.reduceAdd, Nat.reduceSub, Array.replicate_succ, Array.replicate_zero, List.push_toArray, List.append_toArray, List.nil_append, List.cons_append]
 gi_wp2_with fail
 refine ⟨trivial, HIX.out.mono ?_⟩
 rintro e w1 ⟨rfl, hb1⟩
 have HB1 := Aside0.mk (HAL.out.trans (hb1.mono (by simp)))
 clear hb1 HIX
 rcases HX.out with ⟨rfl, hno⟩ | ⟨k, hk, rfl, hyes, hbef⟩
 ·have hfv : findV nf l name = ([], 70) := by
   unfold findV
   rw [List.find?_eq_none.2 (fun x hx => by rw [hno x hx]; decide)]
  gi_wp2_with fail
  refine ⟨_, results_tmp2 rfl _ _ _, ?_⟩
  rw [HPO.out, hfv]
  exact ⟨_, rfl, Kd.R_nil _ _ _ _ _, HB1.out⟩
 ·have hfv : findV nf l name = (nf (piecesV l[k].2), 0) := by
   unfold findV
   rw [List.find?_eq_some_iff_getElem.2 ⟨hyes, k, hk, rfl, fun j hj => by rw [hbef j hj]; rfl⟩]
  have HFV := Aside0.mk hfv
  obtain ⟨b, off, rfl, hb, hn, hcell⟩ := nm_cells (Kd.C_below hC HB1.out) hp
  have hx := hg _ (List.getElem_mem hk)
  have c1 : w1.cell? ⟨b, off + k * 2 + 1, none⟩ = some (.string l[k].2) := hcell k hk 1 _ (by rw [getElem!_pos l k hk]; rfl)
  generalize l[k] = x at hx c1 HFV hyes
  obtain ⟨xn, s⟩ := x
  simp only at hx c1 HFV
  have hbne : b ≠ w1.heap.size := by omega
  have HH := Aside0.mk hx
  have HPC := Aside0.mk (fun (W : World) => callsIn_wide (n := 8).2 (pieces_at s W))
  have HNN := Aside0.mk hN
  have hkl : (k : Int) < (l.length : Int) := by omega
  clear hcell hg hC hx hyes hbef hfv HX HAL hN hp
  generalize l.length = nl at hk hn hc hkl ⊢
  gi_wp2_with fail
  refine ⟨trivial, (HPC.out _).mono ?_⟩
  rintro e w2 ⟨rfl, rfl⟩
  have hL := Boxed.alloc (Boxed.new w1 26 (.slice none 0 0)) (.cells #[.string s] 9)
  have hS := Boxed.new (w1.alloc (.cells #[.slice none 0 0] 26)) 9 (.string s)
  rw [World.size_alloc] at hS
  have hB2 : Below w.heap.size w ((w1.alloc (.cells #[.slice none 0 0] 26)).alloc (.cells #[.string s] 9)) := (HB1.out.alloc HB1.out.size _).alloc (by simp; have := HB1.out.size; omega) _
  have hsz : ((w1.alloc (.cells #[.slice none 0 0] 26)).alloc (.cells #[.string s] 9)).heap.size = w1.heap.size + 2 := by simp
  have hw1 := HB1.out.size
  rw [World.size_alloc]
  generalize (w1.alloc (.cells #[.slice none 0 0] 26)).alloc (.cells #[.string s] 9) = W0 at hL hS hB2 hsz ⊢
  generalize w1.heap.size = BL at hL hS hsz hw1 hbne ⊢
  gi_wp2_with fail
  refine wpIn_rangeFunc_ownH rfl (by omega) (gf := 117) (lb := #[.pointer (some ⟨BL + 1, 0, none⟩)]) rfl trivial (enters_of Tryz.func117 (by kernel_rfl) rfl)
   (pieces_stops 8 (by omega) (BL + 1) s HH.out.1 (by have := HH.out.2.1; omega) W0 (by omega) hS.cell) (fun h k => h.trans k) (keepStr_b W0) (Below.refl _ _) (fun _ => rfl)
   (fun (pre : List (Int × Int)) W => (∃ v, Boxed W BL 26 v ∧ W.ownsRow w.heap.size 36 2 v pre.length (pre.flatMap encRg) ∧ True) ∧ Below w.heap.size w W)
   (fun _ _ _ => False)
   (OwnFrom.and (Own.from (holdsRow_own w.heap.size BL 26 36 2 (fun pre : List (Int × Int) => pre.length) (fun pre => pre.flatMap encRg) (fun _ _ => True)) _) (ownFrom_below (Nat.le_refl _) (by omega)))
   (fun _ _ _ _ _ hs _ _ => hs)
   ⟨⟨_, hL, World.ownsRow_nil _ _ _ _, trivial⟩, hB2⟩
   (fun x a' W => ∃ Bx, W.heap[Bx]? = some (.cells #[.int .i64 x.1, .int .i64 x.2] 36 (0, 0)) ∧ a' = { tmps := #[.slice (some ⟨b, off, none⟩) nl c, .string name, undef, .pointer (some ⟨w.heap.size, 0, none⟩), .slice none 0 0, .int .i64 0, .int .i64 k, .pointer (some ⟨BL, 0, none⟩), .pointer (some ⟨Bx, 0, none⟩), .slice (some ⟨b, off, none⟩) nl c, .func (.func 86) #[] #[.pointer (some ⟨w.heap.size, 0, none⟩)], .int .i64 k, .int .i64 k, .bool (decide ((k : Int) < 0)), .slice (some ⟨b, off, none⟩) nl c, .int .i64 k, .pointer (some ⟨b, off + k * 2, none⟩), .pointer (some ⟨b, off + k * 2 + 1, none⟩), .string s, .func (.func 117) #[] #[.pointer (some ⟨BL + 1, 0, none⟩)], .agg #[.int .i64 x.1, .int .i64 x.2], undef, undef, undef, undef, undef, undef], defers := [] })
   (fun x a' _ X Y row hs hg hr => by obtain ⟨Bx, h1, h2⟩ := hs; exact ⟨Bx, boxRg_own Bx (fun (_ : Unit) => #[.int .i64 x.1, .int .i64 x.2]) () X Y row h1 hg (fun r e => (hr r e).2), h2⟩)
   ?assign ?body ?done ?stop
  case assign =>
   rintro l pre x W K ⟨⟨v, hv, hrow, _⟩, hB⟩ hK
   gi_wp2
   exact hK _ _ ((KeepsOthers.alloc _ _).from _) (KeepStr.of_below ((Below.refl _ W).alloc (Nat.le_refl _) _)) ⟨⟨v, hv.alloc _, hrow.alloc _, trivial⟩, hB.alloc hB.size _⟩ ⟨W.heap.size, heap_alloc_new W _, rfl⟩
  case body =>
   rintro l pre x a' W hl _ ⟨⟨v, hv, hrow, _⟩, hB⟩ ⟨Bx, hx, rfl⟩ hlt
   have hcv := hv.cell
   have z0 := (blk_cell hx 0).trans rfl
   have z1 := (blk_cell hx 1).trans rfl
   obtain ⟨i0, hi, hz0, hz1, hz2⟩ := info_parts info_rg
   have hpl : pre.length ≤ 1000 := by have := HH.out.2.1; omega
   have hnw : ∀ j u, ([Value.int .i64 x.1, .int .i64 x.2] : List Value)[j]? = some u → (W.alloc (.cells #[.int .i64 x.1, .int .i64 x.2] 36)).cell? ((⟨W.heap.size, 0, none⟩ : Addr).add j) = some u := by
    have := World.news_of_block (cs := ([Value.int .i64 x.1, .int .i64 x.2] : List Value).toArray) (t := 36) (fr := (0, 0)) (heap_alloc_new W (.cells ([Value.int .i64 x.1, .int .i64 x.2] : List Value).toArray 36))
    simpa using this
   gi_wp2_with (gi_at_builtin; refine wpListIn_append_own _ rfl _ _ 26 rfl w.heap.size 36 i0 (.agg #[(.int .i64 0), (.int .i64 0)]) 2 16 Tryz.underlying26 hi hz0 hz1 hz2 rfl (by decide) _ _ _ rfl (hrow.alloc _) ⟨W.heap.size, 0, none⟩ 1 1 [.int .i64 x.1, .int .i64 x.2] rfl rfl hnw (by simp [Value.oneCell']) (by unfold maxLen; omega) (by omega) (by have := hB.size; simp; omega) ?_; intro v' w1' hown' hgrow _; obtain ⟨g', cap', rfl⟩ := ownsRow_succ hown'; have hks := keepStr_app (v' := .slice (some ⟨g', 0, none⟩) (pre.length + 1) cap') hv hrow hgrow; obtain ⟨hv1, hv2, hr2, hk2, hb2⟩ := hv.appended (by decide) hrow hB.size hw1 hown' hgrow; have hc1 := hv1.cell; have hf1 := hv1.frozen)
   exact ⟨hk2.from _, hks, ⟨_, hv2, by rw [List.length_append, List.flatMap_append]; simpa [encRg] using hr2, trivial⟩, hB.trans hb2⟩
  case done =>
   rintro D ys W hD rfl ⟨⟨v, hv, hrow, _⟩, hB⟩ hK
   have hcv := hv.cell
   have hR : Kd.R kRg 36 W w.heap.size (fun _ => True) v (piecesV s) := (fixed_R kRg_fixed).2 ⟨fun _ _ => trivial, hrow⟩
   obtain ⟨A9, c9, e9⟩ := Kd.R_slice hR
   subst e9
   have HNC := Aside0.mk (callsIn_wide (n := 8).2 (HNN.out A9 c9 (piecesV s) W HH.out.2.2 (Kd.R_reads' hR).2.2 (Kd.R_reads' hR).2.1))
   clear hR
   gi_wp2_with fail
   refine ⟨trivial, HNC.out.mono ?_⟩
   rintro e w5 ⟨v5, rfl, hR5, hb5⟩
   have hK5 : w5.heap[D]? = some (.deferred (some [])) := (hb5.block D (Array.getElem?_eq_some_iff.1 hK).1).trans hK
   gi_wp2_with fail
   refine ⟨by simp, .inl ⟨_, _, rfl, run_takeDeferred hK5, ?_⟩⟩
   refine ⟨_, results_tmp2 rfl _ _ _, ?_⟩
   have hDW := (Array.getElem?_eq_some_iff.1 hK).1
   rw [HPO.out, HFV.out]
   exact ⟨_, rfl, Kd.R_mono (Kd.R_lower (Kd.R_step (Kd.R_bound hR5) (fun j hj _ => World.putObj_heap_other (fun e => by have := hj.2.1; omega))) hB.size) (fun _ _ => trivial), (hB.trans (hb5.mono hB.size)).trans (belowK_b (w := w) (Nat.le_refl _) w5 D _ _ (by omega) hK5 rfl rfl)⟩
  case stop =>
   rintro D c pre W _ _ h _
   exact h.elim
def goodNm (l : List Nm) : Bool := decide (0 < l.length) && l.all fun x => decide (x.2.size ≤ 1000000) && ((splitV x.2).all fun y => decide (y.size ≤ 1000000)) && decide (splitN x.2 ≤ 1000)
theorem good_nm {l : List Nm} (h : goodNm l = true) : 0 < l.length ∧ ∀ x ∈ l, SmallPieces x.2 ∧ splitN x.2 ≤ 1000 ∧ (piecesV x.2).length ≤ 900000 := by
 unfold goodNm at h
 simp only [Bool.and_eq_true, decide_eq_true_eq, List.all_eq_true] at h
 refine ⟨h.1, fun x hx => ?_⟩
 obtain ⟨⟨h1, h2⟩, h3⟩ := h.2 x hx
 exact ⟨⟨h1, h2⟩, h3, by unfold piecesV; rw [List.length_map, split_len]; omega⟩
end Go.Proofs.YtheheijhijeljaaGreatDoorX
namespace Go.Proofs.YtheheijhijeljaaGreatDoorX
open Go.RowKit Go.Sort Go.Proofs.YtheheijhijeljaaGreatDoorW.PrintWords
/-- slices.Sort at []int, over a row of the call's own. -/
theorem sortInts_calls (P0_ : Nat → Prop) (u9000_ : Value) (l0 : List Int) (w0 w : World) (hB : Below w0.heap.size w0 w) (ho0 : Kd.R (Kd.int .i64) 3 w w0.heap.size P0_ u9000_ l0) (hs : l0.length < 4611686018427387904) :
  Calls Tryz.prog 80 #[u9000_] w fun e w' => e = .returned (.tuple #[]) ∧ Kd.R (Kd.int .i64) 3 w' w0.heap.size (fun k_ => (P0_ k_ ∨ w.heap.size ≤ k_)) u9000_ (l0.mergeSort fun x y => decide (x ≤ y)) ∧ Below w0.heap.size w0 w' ∧ Kept w w' (fun k_ => P0_ k_) := by
 have hR := (fixed_R (fixed_int .i64)).1 ho0
 rcases own_cases hR.2 with ⟨rfl, h0⟩ | ⟨g, cap, rfl⟩
 ·obtain rfl := List.length_eq_zero_iff.1 h0
  exact (AnyM.slices_Sort_int_none Tryz.lay_sortInt none 0 w).mono fun e w' ⟨he, hw⟩ => by
   subst hw
   exact ⟨he, by rw [List.mergeSort_nil]; exact row_none hB ho0⟩
 ·have hb := own_block_lt hR.2
  have hm : ∀ l : List Int, l.flatMap (fun x => [Value.int .i64 x]) = l.map (Value.int .i64) := fun l => by induction l <;> simp_all
  refine (AnyM.slices_Sort_int Tryz.lay_sortInt g 0 cap l0 w (holds_of_own _ hR.2 (by rw [hm])) hb.1 hs).mono fun e w' ⟨he, n, os, hw⟩ => ?_
  subst hw
  exact ⟨he, row_put (fixed_int .i64) _ hB ho0 (List.length_mergeSort _) (by rw [hm])⟩
end Go.Proofs.YtheheijhijeljaaGreatDoorX
namespace Go.Proofs.YtheheijhijeljaaGreatDoorX
open Go.RowKit Go.Proofs.YtheheijhijeljaaGreatDoorW.PrintWords Go.Proofs.YtheheijhijeljaaGreatDoorW.PrintLast Go.Proofs.YtheheijhijeljaaGreatDoorW.PrintMore
set_option linter.unusedVariables false
set_option linter.unusedSimpArgs false
def othersV : Value := .agg #[.int .i64 255, .int .i64 376, .int .i64 181, .int .i64 924, .int .i64 962, .int .i64 931, .int .i64 8490, .int .i64 75, .int .i64 8491, .int .i64 197, .int .i64 383, .int .i64 83, .int .i64 8486, .int .i64 937]
def blocksV : Value := .agg #[.int .i64 65, .int .i64 90, .int .i64 32, .int .i64 192, .int .i64 214, .int .i64 32, .int .i64 216, .int .i64 222, .int .i64 32, .int .i64 913, .int .i64 929, .int .i64 32, .int .i64 931, .int .i64 939, .int .i64 32, .int .i64 1040, .int .i64 1071, .int .i64 32, .int .i64 1024, .int .i64 1039, .int .i64 80]
def othersL : List (Int × Int) := [(255, 376), (181, 924), (962, 931), (8490, 75), (8491, 197), (383, 83), (8486, 937)]
def blocksL : List (Int × Int × Int) := [(65, 90, 32), (192, 214, 32), (216, 222, 32), (913, 929, 32), (931, 939, 32), (1040, 1071, 32), (1024, 1039, 80)]
set_option maxHeartbeats 400000 in
theorem others_any (w : World) : Calls Tryz.prog 50 #[] w fun e w' => e = .returned othersV ∧ Below w.heap.size w w' := by
 go_enter Tryz.func50, Tryz.ntmps50
 go_wp2_with (refine wpList_store_row rfl 69 (.tmp 0) (.tmp 8) rfl w.heap.size #[.int .i64 255, .int .i64 376, .int .i64 181, .int .i64 924, .int .i64 962, .int .i64 931, .int .i64 8490, .int .i64 75, .int .i64 8491, .int .i64 197, .int .i64 383, .int .i64 83, .int .i64 8486, .int .i64 937] rfl rfl 69 #[.int .i64 0, .int .i64 0, .int .i64 0, .int .i64 0, .int .i64 0, .int .i64 0, .int .i64 0, .int .i64 0, .int .i64 0, .int .i64 0, .int .i64 0, .int .i64 0, .int .i64 0, .int .i64 0] (heap_alloc_last w _) (by kernel_rfl) rfl (by kernel_rfl) ?_)
 rw [World.setRow_alloc_new]
 exact bodyPost_ret (v := othersV) (results_single rfl (.cell _ _ _ _ _ rfl (heap_alloc_last _ _) Tryz.underlying69 rfl (by kernel_rfl) .nil)) rfl ⟨rfl, (Below.refl _ _).alloc (Nat.le_refl _) _⟩
set_option maxHeartbeats 400000 in
theorem blocks_any (w : World) : Calls Tryz.prog 49 #[] w fun e w' => e = .returned blocksV ∧ Below w.heap.size w w' := by
 go_enter Tryz.func49, Tryz.ntmps49
 go_wp2_with (refine wpList_store_row rfl 65 (.tmp 0) (.tmp 8) rfl w.heap.size #[.int .i64 65, .int .i64 90, .int .i64 32, .int .i64 192, .int .i64 214, .int .i64 32, .int .i64 216, .int .i64 222, .int .i64 32, .int .i64 913, .int .i64 929, .int .i64 32, .int .i64 931, .int .i64 939, .int .i64 32, .int .i64 1040, .int .i64 1071, .int .i64 32, .int .i64 1024, .int .i64 1039, .int .i64 80] rfl rfl 65 #[.int .i64 0, .int .i64 0, .int .i64 0, .int .i64 0, .int .i64 0, .int .i64 0, .int .i64 0, .int .i64 0, .int .i64 0, .int .i64 0, .int .i64 0, .int .i64 0, .int .i64 0, .int .i64 0, .int .i64 0, .int .i64 0, .int .i64 0, .int .i64 0, .int .i64 0, .int .i64 0, .int .i64 0] (heap_alloc_last w _) (by kernel_rfl) rfl (by kernel_rfl) ?_)
 rw [World.setRow_alloc_new]
 exact bodyPost_ret (v := blocksV) (results_single rfl (.cell _ _ _ _ _ rfl (heap_alloc_last _ _) Tryz.underlying65 rfl (by kernel_rfl) .nil)) rfl ⟨rfl, (Below.refl _ _).alloc (Nat.le_refl _) _⟩
def capB : List (Int × Int × Int) → Int → Int
 | [], r => r
 | (lo, hi, up) :: t, r => if lo + up ≤ r ∧ r ≤ hi + up then r - up else capB t r
def capO : List (Int × Int) → Int → Int
 | [], r => capB blocksL r
 | (a, b) :: t, r => if a = r then b else capO t r
def capF (r : Int) : Int := capO othersL r
theorem capB_no {lo hi up r : Int} {t : List (Int × Int × Int)} (h : ¬ (lo + up ≤ r ∧ r ≤ hi + up)) : capB ((lo, hi, up) :: t) r = capB t r := if_neg h
theorem capB_yes {lo hi up r : Int} {t : List (Int × Int × Int)} (h : lo + up ≤ r ∧ r ≤ hi + up) : capB ((lo, hi, up) :: t) r = r - up := if_pos h
theorem ret_i {a b : Int} (h : a = b) : Ending.returned (.int .i64 a) = .returned (.int .i64 b) := by rw [h]
theorem oi0 (w : World) : (Instr.index 69 othersV (.int .i64 0)).run Tryz.prog w = .ok (.agg #[.int .i64 255, .int .i64 376]) w := by kernel_rfl
theorem oi1 (w : World) : (Instr.index 69 othersV (.int .i64 1)).run Tryz.prog w = .ok (.agg #[.int .i64 181, .int .i64 924]) w := by kernel_rfl
theorem oi2 (w : World) : (Instr.index 69 othersV (.int .i64 2)).run Tryz.prog w = .ok (.agg #[.int .i64 962, .int .i64 931]) w := by kernel_rfl
theorem oi3 (w : World) : (Instr.index 69 othersV (.int .i64 3)).run Tryz.prog w = .ok (.agg #[.int .i64 8490, .int .i64 75]) w := by kernel_rfl
theorem oi4 (w : World) : (Instr.index 69 othersV (.int .i64 4)).run Tryz.prog w = .ok (.agg #[.int .i64 8491, .int .i64 197]) w := by kernel_rfl
theorem oi5 (w : World) : (Instr.index 69 othersV (.int .i64 5)).run Tryz.prog w = .ok (.agg #[.int .i64 383, .int .i64 83]) w := by kernel_rfl
theorem oi6 (w : World) : (Instr.index 69 othersV (.int .i64 6)).run Tryz.prog w = .ok (.agg #[.int .i64 8486, .int .i64 937]) w := by kernel_rfl
theorem bi0 (w : World) : (Instr.index 65 blocksV (.int .i64 0)).run Tryz.prog w = .ok (.agg #[.int .i64 65, .int .i64 90, .int .i64 32]) w := by kernel_rfl
theorem bi1 (w : World) : (Instr.index 65 blocksV (.int .i64 1)).run Tryz.prog w = .ok (.agg #[.int .i64 192, .int .i64 214, .int .i64 32]) w := by kernel_rfl
theorem bi2 (w : World) : (Instr.index 65 blocksV (.int .i64 2)).run Tryz.prog w = .ok (.agg #[.int .i64 216, .int .i64 222, .int .i64 32]) w := by kernel_rfl
theorem bi3 (w : World) : (Instr.index 65 blocksV (.int .i64 3)).run Tryz.prog w = .ok (.agg #[.int .i64 913, .int .i64 929, .int .i64 32]) w := by kernel_rfl
theorem bi4 (w : World) : (Instr.index 65 blocksV (.int .i64 4)).run Tryz.prog w = .ok (.agg #[.int .i64 931, .int .i64 939, .int .i64 32]) w := by kernel_rfl
theorem bi5 (w : World) : (Instr.index 65 blocksV (.int .i64 5)).run Tryz.prog w = .ok (.agg #[.int .i64 1040, .int .i64 1071, .int .i64 32]) w := by kernel_rfl
theorem bi6 (w : World) : (Instr.index 65 blocksV (.int .i64 6)).run Tryz.prog w = .ok (.agg #[.int .i64 1024, .int .i64 1039, .int .i64 80]) w := by kernel_rfl
set_option maxHeartbeats 4000000 in
theorem capital_any (r : Int) (w : World) : Calls Tryz.prog 79 #[.int .i64 r] w fun e w' => e = .returned (.int .i64 (capF r)) ∧ Below w.heap.size w w' := by
 go_enter Tryz.func79, Tryz.ntmps79
 go_wp2_with (go_at_call 50; refine (others_any _).mono ?_; rintro e w' ⟨rfl, hb⟩)
 go_loopg [8] 7 (fun g s8 wr => ∃ k : Nat, k ≤ 7 ∧ 7 - k ≤ g ∧ s8 = .int .i64 k ∧ Aside (Below w.heap.size w wr) ∧ Aside (capF r = capO (othersL.drop k) r))
 case atStart => exact ⟨0, by omega, by omega, rfl, hb, rfl⟩
 case round =>
  obtain ⟨k, hk, hg, rfl, BW, A⟩ := hrel
  clear hb
  have hcase : k = 7 ∨ k = 0 ∨ k = 1 ∨ k = 2 ∨ k = 3 ∨ k = 4 ∨ k = 5 ∨ k = 6 := by omega
  rcases hcase with rfl | rfl | rfl | rfl | rfl | rfl | rfl | rfl
  ·go_wp2_with (go_at_call 49; refine (blocks_any _).mono ?_; rintro e w2 ⟨rfl, hb2⟩)
   have BW2 : Aside (Below w.heap.size w w2) := BW.out.trans (hb2.mono BW.out.size)
   clear hb2 BW
   go_loopg [19] 7 (fun g s19 wr2 => ∃ k : Nat, k ≤ 7 ∧ 7 - k ≤ g ∧ s19 = .int .i64 k ∧ Aside (Below w.heap.size w wr2) ∧ Aside (capF r = capB (blocksL.drop k) r))
   case atStart => exact ⟨0, by omega, by omega, rfl, BW2, A⟩
   case round =>
    obtain ⟨j, hj, hg2, rfl, BW3, A3⟩ := hrel
    clear BW2 A
    have hcase : j = 7 ∨ j = 0 ∨ j = 1 ∨ j = 2 ∨ j = 3 ∨ j = 4 ∨ j = 5 ∨ j = 6 := by omega
    rcases hcase with rfl | rfl | rfl | rfl | rfl | rfl | rfl | rfl
    ·go_wp2
     go_ret
     exact ⟨ret_i (A3.out.trans rfl).symm, BW3.out⟩
    ·have ii := bi0
     by_cases h1 : (97 : Int) ≤ r
     ·by_cases h2 : r ≤ (122 : Int)
      ·go_wp2
       go_ret
       exact ⟨ret_i (A3.out.trans (capB_yes (lo := 65) (hi := 90) (up := 32) (t := blocksL.drop 1) (by omega))).symm, BW3.out.alloc BW3.out.size _⟩
      ·go_wp2
       go_roundg 6
       case measure => omega
       case rel => exact ⟨1, by omega, by omega, rfl, BW3.out.alloc BW3.out.size _, A3.out.trans (capB_no (lo := 65) (hi := 90) (up := 32) (t := blocksL.drop 1) (by omega))⟩
     ·go_wp2
      go_roundg 6
      case measure => omega
      case rel => exact ⟨1, by omega, by omega, rfl, BW3.out.alloc BW3.out.size _, A3.out.trans (capB_no (lo := 65) (hi := 90) (up := 32) (t := blocksL.drop 1) (by omega))⟩
    ·have ii := bi1
     by_cases h1 : (224 : Int) ≤ r
     ·by_cases h2 : r ≤ (246 : Int)
      ·go_wp2
       go_ret
       exact ⟨ret_i (A3.out.trans (capB_yes (lo := 192) (hi := 214) (up := 32) (t := blocksL.drop 2) (by omega))).symm, BW3.out.alloc BW3.out.size _⟩
      ·go_wp2
       go_roundg 5
       case measure => omega
       case rel => exact ⟨2, by omega, by omega, rfl, BW3.out.alloc BW3.out.size _, A3.out.trans (capB_no (lo := 192) (hi := 214) (up := 32) (t := blocksL.drop 2) (by omega))⟩
     ·go_wp2
      go_roundg 5
      case measure => omega
      case rel => exact ⟨2, by omega, by omega, rfl, BW3.out.alloc BW3.out.size _, A3.out.trans (capB_no (lo := 192) (hi := 214) (up := 32) (t := blocksL.drop 2) (by omega))⟩
    ·have ii := bi2
     by_cases h1 : (248 : Int) ≤ r
     ·by_cases h2 : r ≤ (254 : Int)
      ·go_wp2
       go_ret
       exact ⟨ret_i (A3.out.trans (capB_yes (lo := 216) (hi := 222) (up := 32) (t := blocksL.drop 3) (by omega))).symm, BW3.out.alloc BW3.out.size _⟩
      ·go_wp2
       go_roundg 4
       case measure => omega
       case rel => exact ⟨3, by omega, by omega, rfl, BW3.out.alloc BW3.out.size _, A3.out.trans (capB_no (lo := 216) (hi := 222) (up := 32) (t := blocksL.drop 3) (by omega))⟩
     ·go_wp2
      go_roundg 4
      case measure => omega
      case rel => exact ⟨3, by omega, by omega, rfl, BW3.out.alloc BW3.out.size _, A3.out.trans (capB_no (lo := 216) (hi := 222) (up := 32) (t := blocksL.drop 3) (by omega))⟩
    ·have ii := bi3
     by_cases h1 : (945 : Int) ≤ r
     ·by_cases h2 : r ≤ (961 : Int)
      ·go_wp2
       go_ret
       exact ⟨ret_i (A3.out.trans (capB_yes (lo := 913) (hi := 929) (up := 32) (t := blocksL.drop 4) (by omega))).symm, BW3.out.alloc BW3.out.size _⟩
      ·go_wp2
       go_roundg 3
       case measure => omega
       case rel => exact ⟨4, by omega, by omega, rfl, BW3.out.alloc BW3.out.size _, A3.out.trans (capB_no (lo := 913) (hi := 929) (up := 32) (t := blocksL.drop 4) (by omega))⟩
     ·go_wp2
      go_roundg 3
      case measure => omega
      case rel => exact ⟨4, by omega, by omega, rfl, BW3.out.alloc BW3.out.size _, A3.out.trans (capB_no (lo := 913) (hi := 929) (up := 32) (t := blocksL.drop 4) (by omega))⟩
    ·have ii := bi4
     by_cases h1 : (963 : Int) ≤ r
     ·by_cases h2 : r ≤ (971 : Int)
      ·go_wp2
       go_ret
       exact ⟨ret_i (A3.out.trans (capB_yes (lo := 931) (hi := 939) (up := 32) (t := blocksL.drop 5) (by omega))).symm, BW3.out.alloc BW3.out.size _⟩
      ·go_wp2
       go_roundg 2
       case measure => omega
       case rel => exact ⟨5, by omega, by omega, rfl, BW3.out.alloc BW3.out.size _, A3.out.trans (capB_no (lo := 931) (hi := 939) (up := 32) (t := blocksL.drop 5) (by omega))⟩
     ·go_wp2
      go_roundg 2
      case measure => omega
      case rel => exact ⟨5, by omega, by omega, rfl, BW3.out.alloc BW3.out.size _, A3.out.trans (capB_no (lo := 931) (hi := 939) (up := 32) (t := blocksL.drop 5) (by omega))⟩
    ·have ii := bi5
     by_cases h1 : (1072 : Int) ≤ r
     ·by_cases h2 : r ≤ (1103 : Int)
      ·go_wp2
       go_ret
       exact ⟨ret_i (A3.out.trans (capB_yes (lo := 1040) (hi := 1071) (up := 32) (t := blocksL.drop 6) (by omega))).symm, BW3.out.alloc BW3.out.size _⟩
      ·go_wp2
       go_roundg 1
       case measure => omega
       case rel => exact ⟨6, by omega, by omega, rfl, BW3.out.alloc BW3.out.size _, A3.out.trans (capB_no (lo := 1040) (hi := 1071) (up := 32) (t := blocksL.drop 6) (by omega))⟩
     ·go_wp2
      go_roundg 1
      case measure => omega
      case rel => exact ⟨6, by omega, by omega, rfl, BW3.out.alloc BW3.out.size _, A3.out.trans (capB_no (lo := 1040) (hi := 1071) (up := 32) (t := blocksL.drop 6) (by omega))⟩
    ·have ii := bi6
     by_cases h1 : (1104 : Int) ≤ r
     ·by_cases h2 : r ≤ (1119 : Int)
      ·go_wp2
       go_ret
       exact ⟨ret_i (A3.out.trans (capB_yes (lo := 1024) (hi := 1039) (up := 80) (t := blocksL.drop 7) (by omega))).symm, BW3.out.alloc BW3.out.size _⟩
      ·go_wp2
       go_roundg 0
       case measure => omega
       case rel => exact ⟨7, by omega, by omega, rfl, BW3.out.alloc BW3.out.size _, A3.out.trans (capB_no (lo := 1024) (hi := 1039) (up := 80) (t := blocksL.drop 7) (by omega))⟩
     ·go_wp2
      go_roundg 0
      case measure => omega
      case rel => exact ⟨7, by omega, by omega, rfl, BW3.out.alloc BW3.out.size _, A3.out.trans (capB_no (lo := 1024) (hi := 1039) (up := 80) (t := blocksL.drop 7) (by omega))⟩
  ·have ii := oi0
   by_cases h : (255 : Int) = r
   ·subst h
    go_wp2
    go_ret
    exact ⟨by kernel_rfl, BW.out.alloc BW.out.size _⟩
   ·have h' : ((255 : Int) == r) = false := by simpa using h
    go_wp2
    go_roundg 6
    case measure => omega
    case rel => exact ⟨1, by omega, by omega, rfl, BW.out.alloc BW.out.size _, A.out.trans (if_neg h)⟩
  ·have ii := oi1
   by_cases h : (181 : Int) = r
   ·subst h
    go_wp2
    go_ret
    exact ⟨by kernel_rfl, BW.out.alloc BW.out.size _⟩
   ·have h' : ((181 : Int) == r) = false := by simpa using h
    go_wp2
    go_roundg 5
    case measure => omega
    case rel => exact ⟨2, by omega, by omega, rfl, BW.out.alloc BW.out.size _, A.out.trans (if_neg h)⟩
  ·have ii := oi2
   by_cases h : (962 : Int) = r
   ·subst h
    go_wp2
    go_ret
    exact ⟨by kernel_rfl, BW.out.alloc BW.out.size _⟩
   ·have h' : ((962 : Int) == r) = false := by simpa using h
    go_wp2
    go_roundg 4
    case measure => omega
    case rel => exact ⟨3, by omega, by omega, rfl, BW.out.alloc BW.out.size _, A.out.trans (if_neg h)⟩
  ·have ii := oi3
   by_cases h : (8490 : Int) = r
   ·subst h
    go_wp2
    go_ret
    exact ⟨by kernel_rfl, BW.out.alloc BW.out.size _⟩
   ·have h' : ((8490 : Int) == r) = false := by simpa using h
    go_wp2
    go_roundg 3
    case measure => omega
    case rel => exact ⟨4, by omega, by omega, rfl, BW.out.alloc BW.out.size _, A.out.trans (if_neg h)⟩
  ·have ii := oi4
   by_cases h : (8491 : Int) = r
   ·subst h
    go_wp2
    go_ret
    exact ⟨by kernel_rfl, BW.out.alloc BW.out.size _⟩
   ·have h' : ((8491 : Int) == r) = false := by simpa using h
    go_wp2
    go_roundg 2
    case measure => omega
    case rel => exact ⟨5, by omega, by omega, rfl, BW.out.alloc BW.out.size _, A.out.trans (if_neg h)⟩
  ·have ii := oi5
   by_cases h : (383 : Int) = r
   ·subst h
    go_wp2
    go_ret
    exact ⟨by kernel_rfl, BW.out.alloc BW.out.size _⟩
   ·have h' : ((383 : Int) == r) = false := by simpa using h
    go_wp2
    go_roundg 1
    case measure => omega
    case rel => exact ⟨6, by omega, by omega, rfl, BW.out.alloc BW.out.size _, A.out.trans (if_neg h)⟩
  ·have ii := oi6
   by_cases h : (8486 : Int) = r
   ·subst h
    go_wp2
    go_ret
    exact ⟨by kernel_rfl, BW.out.alloc BW.out.size _⟩
   ·have h' : ((8486 : Int) == r) = false := by simpa using h
    go_wp2
    go_roundg 0
    case measure => omega
    case rel => exact ⟨7, by omega, by omega, rfl, BW.out.alloc BW.out.size _, A.out.trans (if_neg h)⟩
end Go.Proofs.YtheheijhijeljaaGreatDoorX
namespace Go.Proofs.YtheheijhijeljaaGreatDoorX
open Go.RowKit Go.Proofs.YtheheijhijeljaaGreatDoorW.PrintWords Go.Proofs.YtheheijhijeljaaGreatDoorW.PrintLast Go.Proofs.YtheheijhijeljaaGreatDoorW.PrintMore
set_option linter.unusedVariables false
set_option linter.unusedSimpArgs false
theorem info_int : (Tryz.prog.info? 3).map (fun i => (i.zero, i.size, i.bytes)) = some (some (.int .i64 0), 1, 8) := by kernel_rfl
def famB : List (Int × Int × Int) → Int → List Int
 | [], _ => []
 | (lo, hi, up) :: t, c => if lo ≤ c ∧ c ≤ hi then (c + up) :: famB t c else famB t c
def famO : List (Int × Int) → Int → List Int
 | [], _ => []
 | (a, b) :: t, c => if b = c then a :: famO t c else famO t c
def fam0 (c : Int) : List Int := c :: (famB blocksL c ++ famO othersL c)
def famF (r : Int) : List Int := (fam0 (capF r)).mergeSort fun x y => decide (x ≤ y)
theorem famB_no {lo hi up c : Int} {t : List (Int × Int × Int)} (h : ¬ (lo ≤ c ∧ c ≤ hi)) : famB ((lo, hi, up) :: t) c = famB t c := if_neg h
theorem famB_yes {lo hi up c : Int} {t : List (Int × Int × Int)} (h : lo ≤ c ∧ c ≤ hi) : famB ((lo, hi, up) :: t) c = (c + up) :: famB t c := if_pos h
theorem famO_no {a b c : Int} {t : List (Int × Int)} (h : ¬ b = c) : famO ((a, b) :: t) c = famO t c := if_neg h
theorem R_single (W : World) (base e : Nat) (c : Int) (h : base ≤ W.heap.size) : Kd.R (Kd.int .i64) e (W.alloc (.cells #[.int .i64 c] e)) base (fun _ => True) (.slice (some ⟨W.heap.size, 0, none⟩) 1 1) [c] :=
 (fixed_R (fixed_int .i64)).2 ⟨fun _ _ => trivial, rfl, .inr ⟨W.heap.size, 1, #[.int .i64 c], rfl, h, heap_alloc_last _ _, Nat.le_refl _, by decide, rfl, rfl⟩⟩
def FamPost (w : World) (l : List Int) (e : Ending) (w' : World) : Prop := ∃ v0_ : Value, e = .returned v0_ ∧ Kd.R (Kd.int .i64) 3 w' w.heap.size (fun _ => True) v0_ l ∧ Below w.heap.size w w'
set_option maxHeartbeats 4000000 in
theorem family_any (r : Int) (w : World) : Calls Tryz.prog 45 #[.int .i64 r] w (FamPost w (famF r)) := by
 obtain ⟨c, hc⟩ : ∃ c, capF r = c := ⟨_, rfl⟩
 have hcap := capital_any r w
 unfold famF
 rw [hc] at hcap ⊢
 have HT : Aside0 (∀ l, l = fam0 c → (l.mergeSort fun x y => decide (x ≤ y)) = ((fam0 c).mergeSort fun x y => decide (x ≤ y))) := ⟨fun l h => by rw [h]⟩
 have HF : Aside0 ([c] ++ (famB (blocksL.drop 0) c ++ famO othersL c) = fam0 c) := ⟨rfl⟩
 clear hc
 generalize ((fam0 c).mergeSort fun x y => decide (x ≤ y)) = S at HT ⊢
 generalize fam0 c = T at HT HF
 go_enter Tryz.func45, Tryz.ntmps45
 go_wp2_with (first | (go_at_call 79; refine hcap.mono ?_; rintro e w1 ⟨rfl, hb⟩; have HB1 := Aside0.mk hb; clear hb hcap) | (go_at_call 49; refine (blocks_any _).mono ?_; rintro e w2 ⟨rfl, hb2⟩))
 have HO0 := Aside0.mk (Kd.R_below (R_single w1 w.heap.size 3 c HB1.out.size) hb2)
 have HB0 := Aside0.mk (below_then (below_alloc HB1.out (.cells #[.int .i64 c] 3)) (Nat.le_trans HB1.out.size (by simp)) hb2)
 clear hb2 HB1
 go_loopg [4, 14] 7 (fun g s4 s14 wr => ∃ (k : Nat) (acc : List Int), k ≤ 7 ∧ 7 - k ≤ g ∧ s14 = .int .i64 k ∧ Aside0 (Kd.R (Kd.int .i64) 3 wr w.heap.size (fun _ => True) s4 acc) ∧ Aside0 (Below w.heap.size w wr) ∧ Aside0 (acc ++ (famB (blocksL.drop k) c ++ famO othersL c) = T) ∧ Aside0 (acc.length ≤ 1 + k))
 case atStart => exact ⟨0, [c], by omega, by omega, rfl, HO0, HB0, HF, ⟨by simp⟩⟩
 case round =>
  obtain ⟨k, acc, hk, hgk, rfl, HO, HB, HA, HL⟩ := hrel
  clear HO0 HB0 HF
  have hcase : k = 7 ∨ k = 0 ∨ k = 1 ∨ k = 2 ∨ k = 3 ∨ k = 4 ∨ k = 5 ∨ k = 6 := by omega
  rcases hcase with rfl | rfl | rfl | rfl | rfl | rfl | rfl | rfl
  ·go_wp2_with (go_at_call 50; refine (others_any _).mono ?_; rintro e w2 ⟨rfl, hb2⟩)
   have HO0 := Aside0.mk (Kd.R_below HO.out hb2)
   have HB0 := Aside0.mk (below_then HB.out HB.out.size hb2)
   have HF := Aside0.mk (show acc ++ famO (othersL.drop 0) c = T from HA.out)
   have HL0 := Aside0.mk (show acc.length ≤ 8 + 0 from HL.out)
   clear hb2 HO HB HA HL
   go_loopg [4, 36] 7 (fun g s4 s36 wr => ∃ (k : Nat) (acc : List Int), k ≤ 7 ∧ 7 - k ≤ g ∧ s36 = .int .i64 k ∧ Aside0 (Kd.R (Kd.int .i64) 3 wr w.heap.size (fun _ => True) s4 acc) ∧ Aside0 (Below w.heap.size w wr) ∧ Aside0 (acc ++ famO (othersL.drop k) c = T) ∧ Aside0 (acc.length ≤ 8 + k))
   case atStart => exact ⟨0, acc, by omega, by omega, rfl, HO0, HB0, HF, HL0⟩
   case round =>
    clear HO0 HB0 HF HL0 acc
    obtain ⟨k, acc, hk, hgk2, rfl, HO, HB, HA, HL⟩ := hrel
    have hcase : k = 7 ∨ k = 0 ∨ k = 1 ∨ k = 2 ∨ k = 3 ∨ k = 4 ∨ k = 5 ∨ k = 6 := by omega
    rcases hcase with rfl | rfl | rfl | rfl | rfl | rfl | rfl | rfl
    ·have HE := Aside0.mk (HT.out acc ((List.append_nil acc).symm.trans HA.out))
     clear HT HA
     obtain ⟨Ao, co, eo⟩ := Kd.R_slice HO.out
     subst eo
     have hsort := fun W hB hO => sortInts_calls (fun k_ => some k_ = (.slice Ao acc.length co : Value).ownBlock) (.slice Ao acc.length co) acc w W hB hO (by have := HL.out; omega)
     go_wp2_with (go_at_call 80; refine (hsort _ ?hB ?hO).mono ?_; (case hB => exact HB.out); (case hO => exact Kd.R_tight rfl HO.out); rintro e w' ⟨rfl, hR, hB', hK⟩)
     go_ret
     rw [HE.out] at hR
     exact ⟨_, rfl, Kd.R_mono hR (fun _ _ => trivial), hB'⟩
    ·have ii := oi0
     by_cases h : (376 : Int) = c
     ·subst h
      go_wp2_with (at_builtin; (refine Kd.R_append (Kd.int .i64) (w0 := w) w.heap.size rfl (.tmp 43) (.tmp 46) 57 3 (.int .i64 0) 8 rfl Tryz.underlying57 info_int rfl (by decide) (by omega) u4 acc (255) [.int .i64 (255)] (fun _ => True) (fun _ => False) rfl ?aX ?aP (fun _ hk => hk.elim) ?aF ?aO ?aB ?aS ?aL ?_); (case aX => (first | rfl | (simp [Act.eval]; done) | (simp [Act.eval] <;> rfl))); (case aP => exact rfl); (case aF => exact fun _ _ => trivial); (case aO => exact (by (with_reducible repeat (first | apply Kd.R_alloc | apply Kd.R_drewN | apply Kd.R_drew)); exact HO.out)); (case aB => exact (by repeat (first | (with_reducible first | exact HB.out | apply below_alloc | apply pw_below_drewN | apply below_drew1) | exact HB.out))); (case aS => exact (below_size (by repeat (first | (with_reducible first | exact HB.out | apply below_alloc | apply pw_below_drewN | apply below_drew1) | exact HB.out)))); (case aL => have := HL.out; omega); intro v1 w1 ho hb hg hat; have n0_ := Aside0.mk ho; have n1_ := Aside0.mk hb; clear HO HB ho hb hg hat; have HO := n0_; have HB := n1_; clear n0_ n1_)
      go_roundg 6
      case measure => omega
      case rel => exact ⟨1, acc ++ [255], by omega, by omega, rfl, ⟨(by (with_reducible repeat (first | apply Kd.R_alloc | apply Kd.R_drewN | apply Kd.R_drew)); exact HO.out)⟩, ⟨(by repeat (first | (with_reducible first | exact HB.out | apply below_alloc | apply pw_below_drewN | apply below_drew1) | exact HB.out))⟩, ⟨by rw [← HA.out]; simp [othersL, famO]⟩, ⟨by have := HL.out; simp; omega⟩⟩
     ·have h' : ((376 : Int) == c) = false := by simpa using h
      go_wp2
      go_roundg 6
      case measure => omega
      case rel => exact ⟨1, acc, by omega, by omega, rfl, ⟨(by (with_reducible repeat (first | apply Kd.R_alloc | apply Kd.R_drewN | apply Kd.R_drew)); exact HO.out)⟩, ⟨(by repeat (first | (with_reducible first | exact HB.out | apply below_alloc | apply pw_below_drewN | apply below_drew1) | exact HB.out))⟩, ⟨by rw [← HA.out]; simp [othersL, famO, h]⟩, ⟨by have := HL.out; omega⟩⟩
    ·have ii := oi1
     by_cases h : (924 : Int) = c
     ·subst h
      go_wp2_with (at_builtin; (refine Kd.R_append (Kd.int .i64) (w0 := w) w.heap.size rfl (.tmp 43) (.tmp 46) 57 3 (.int .i64 0) 8 rfl Tryz.underlying57 info_int rfl (by decide) (by omega) u4 acc (181) [.int .i64 (181)] (fun _ => True) (fun _ => False) rfl ?aX ?aP (fun _ hk => hk.elim) ?aF ?aO ?aB ?aS ?aL ?_); (case aX => (first | rfl | (simp [Act.eval]; done) | (simp [Act.eval] <;> rfl))); (case aP => exact rfl); (case aF => exact fun _ _ => trivial); (case aO => exact (by (with_reducible repeat (first | apply Kd.R_alloc | apply Kd.R_drewN | apply Kd.R_drew)); exact HO.out)); (case aB => exact (by repeat (first | (with_reducible first | exact HB.out | apply below_alloc | apply pw_below_drewN | apply below_drew1) | exact HB.out))); (case aS => exact (below_size (by repeat (first | (with_reducible first | exact HB.out | apply below_alloc | apply pw_below_drewN | apply below_drew1) | exact HB.out)))); (case aL => have := HL.out; omega); intro v1 w1 ho hb hg hat; have n0_ := Aside0.mk ho; have n1_ := Aside0.mk hb; clear HO HB ho hb hg hat; have HO := n0_; have HB := n1_; clear n0_ n1_)
      go_roundg 5
      case measure => omega
      case rel => exact ⟨2, acc ++ [181], by omega, by omega, rfl, ⟨(by (with_reducible repeat (first | apply Kd.R_alloc | apply Kd.R_drewN | apply Kd.R_drew)); exact HO.out)⟩, ⟨(by repeat (first | (with_reducible first | exact HB.out | apply below_alloc | apply pw_below_drewN | apply below_drew1) | exact HB.out))⟩, ⟨by rw [← HA.out]; simp [othersL, famO]⟩, ⟨by have := HL.out; simp; omega⟩⟩
     ·have h' : ((924 : Int) == c) = false := by simpa using h
      go_wp2
      go_roundg 5
      case measure => omega
      case rel => exact ⟨2, acc, by omega, by omega, rfl, ⟨(by (with_reducible repeat (first | apply Kd.R_alloc | apply Kd.R_drewN | apply Kd.R_drew)); exact HO.out)⟩, ⟨(by repeat (first | (with_reducible first | exact HB.out | apply below_alloc | apply pw_below_drewN | apply below_drew1) | exact HB.out))⟩, ⟨by rw [← HA.out]; simp [othersL, famO, h]⟩, ⟨by have := HL.out; omega⟩⟩
    ·have ii := oi2
     by_cases h : (931 : Int) = c
     ·subst h
      go_wp2_with (at_builtin; (refine Kd.R_append (Kd.int .i64) (w0 := w) w.heap.size rfl (.tmp 43) (.tmp 46) 57 3 (.int .i64 0) 8 rfl Tryz.underlying57 info_int rfl (by decide) (by omega) u4 acc (962) [.int .i64 (962)] (fun _ => True) (fun _ => False) rfl ?aX ?aP (fun _ hk => hk.elim) ?aF ?aO ?aB ?aS ?aL ?_); (case aX => (first | rfl | (simp [Act.eval]; done) | (simp [Act.eval] <;> rfl))); (case aP => exact rfl); (case aF => exact fun _ _ => trivial); (case aO => exact (by (with_reducible repeat (first | apply Kd.R_alloc | apply Kd.R_drewN | apply Kd.R_drew)); exact HO.out)); (case aB => exact (by repeat (first | (with_reducible first | exact HB.out | apply below_alloc | apply pw_below_drewN | apply below_drew1) | exact HB.out))); (case aS => exact (below_size (by repeat (first | (with_reducible first | exact HB.out | apply below_alloc | apply pw_below_drewN | apply below_drew1) | exact HB.out)))); (case aL => have := HL.out; omega); intro v1 w1 ho hb hg hat; have n0_ := Aside0.mk ho; have n1_ := Aside0.mk hb; clear HO HB ho hb hg hat; have HO := n0_; have HB := n1_; clear n0_ n1_)
      go_roundg 4
      case measure => omega
      case rel => exact ⟨3, acc ++ [962], by omega, by omega, rfl, ⟨(by (with_reducible repeat (first | apply Kd.R_alloc | apply Kd.R_drewN | apply Kd.R_drew)); exact HO.out)⟩, ⟨(by repeat (first | (with_reducible first | exact HB.out | apply below_alloc | apply pw_below_drewN | apply below_drew1) | exact HB.out))⟩, ⟨by rw [← HA.out]; simp [othersL, famO]⟩, ⟨by have := HL.out; simp; omega⟩⟩
     ·have h' : ((931 : Int) == c) = false := by simpa using h
      go_wp2
      go_roundg 4
      case measure => omega
      case rel => exact ⟨3, acc, by omega, by omega, rfl, ⟨(by (with_reducible repeat (first | apply Kd.R_alloc | apply Kd.R_drewN | apply Kd.R_drew)); exact HO.out)⟩, ⟨(by repeat (first | (with_reducible first | exact HB.out | apply below_alloc | apply pw_below_drewN | apply below_drew1) | exact HB.out))⟩, ⟨by rw [← HA.out]; simp [othersL, famO, h]⟩, ⟨by have := HL.out; omega⟩⟩
    ·have ii := oi3
     by_cases h : (75 : Int) = c
     ·subst h
      go_wp2_with (at_builtin; (refine Kd.R_append (Kd.int .i64) (w0 := w) w.heap.size rfl (.tmp 43) (.tmp 46) 57 3 (.int .i64 0) 8 rfl Tryz.underlying57 info_int rfl (by decide) (by omega) u4 acc (8490) [.int .i64 (8490)] (fun _ => True) (fun _ => False) rfl ?aX ?aP (fun _ hk => hk.elim) ?aF ?aO ?aB ?aS ?aL ?_); (case aX => (first | rfl | (simp [Act.eval]; done) | (simp [Act.eval] <;> rfl))); (case aP => exact rfl); (case aF => exact fun _ _ => trivial); (case aO => exact (by (with_reducible repeat (first | apply Kd.R_alloc | apply Kd.R_drewN | apply Kd.R_drew)); exact HO.out)); (case aB => exact (by repeat (first | (with_reducible first | exact HB.out | apply below_alloc | apply pw_below_drewN | apply below_drew1) | exact HB.out))); (case aS => exact (below_size (by repeat (first | (with_reducible first | exact HB.out | apply below_alloc | apply pw_below_drewN | apply below_drew1) | exact HB.out)))); (case aL => have := HL.out; omega); intro v1 w1 ho hb hg hat; have n0_ := Aside0.mk ho; have n1_ := Aside0.mk hb; clear HO HB ho hb hg hat; have HO := n0_; have HB := n1_; clear n0_ n1_)
      go_roundg 3
      case measure => omega
      case rel => exact ⟨4, acc ++ [8490], by omega, by omega, rfl, ⟨(by (with_reducible repeat (first | apply Kd.R_alloc | apply Kd.R_drewN | apply Kd.R_drew)); exact HO.out)⟩, ⟨(by repeat (first | (with_reducible first | exact HB.out | apply below_alloc | apply pw_below_drewN | apply below_drew1) | exact HB.out))⟩, ⟨by rw [← HA.out]; simp [othersL, famO]⟩, ⟨by have := HL.out; simp; omega⟩⟩
     ·have h' : ((75 : Int) == c) = false := by simpa using h
      go_wp2
      go_roundg 3
      case measure => omega
      case rel => exact ⟨4, acc, by omega, by omega, rfl, ⟨(by (with_reducible repeat (first | apply Kd.R_alloc | apply Kd.R_drewN | apply Kd.R_drew)); exact HO.out)⟩, ⟨(by repeat (first | (with_reducible first | exact HB.out | apply below_alloc | apply pw_below_drewN | apply below_drew1) | exact HB.out))⟩, ⟨by rw [← HA.out]; simp [othersL, famO, h]⟩, ⟨by have := HL.out; omega⟩⟩
    ·have ii := oi4
     by_cases h : (197 : Int) = c
     ·subst h
      go_wp2_with (at_builtin; (refine Kd.R_append (Kd.int .i64) (w0 := w) w.heap.size rfl (.tmp 43) (.tmp 46) 57 3 (.int .i64 0) 8 rfl Tryz.underlying57 info_int rfl (by decide) (by omega) u4 acc (8491) [.int .i64 (8491)] (fun _ => True) (fun _ => False) rfl ?aX ?aP (fun _ hk => hk.elim) ?aF ?aO ?aB ?aS ?aL ?_); (case aX => (first | rfl | (simp [Act.eval]; done) | (simp [Act.eval] <;> rfl))); (case aP => exact rfl); (case aF => exact fun _ _ => trivial); (case aO => exact (by (with_reducible repeat (first | apply Kd.R_alloc | apply Kd.R_drewN | apply Kd.R_drew)); exact HO.out)); (case aB => exact (by repeat (first | (with_reducible first | exact HB.out | apply below_alloc | apply pw_below_drewN | apply below_drew1) | exact HB.out))); (case aS => exact (below_size (by repeat (first | (with_reducible first | exact HB.out | apply below_alloc | apply pw_below_drewN | apply below_drew1) | exact HB.out)))); (case aL => have := HL.out; omega); intro v1 w1 ho hb hg hat; have n0_ := Aside0.mk ho; have n1_ := Aside0.mk hb; clear HO HB ho hb hg hat; have HO := n0_; have HB := n1_; clear n0_ n1_)
      go_roundg 2
      case measure => omega
      case rel => exact ⟨5, acc ++ [8491], by omega, by omega, rfl, ⟨(by (with_reducible repeat (first | apply Kd.R_alloc | apply Kd.R_drewN | apply Kd.R_drew)); exact HO.out)⟩, ⟨(by repeat (first | (with_reducible first | exact HB.out | apply below_alloc | apply pw_below_drewN | apply below_drew1) | exact HB.out))⟩, ⟨by rw [← HA.out]; simp [othersL, famO]⟩, ⟨by have := HL.out; simp; omega⟩⟩
     ·have h' : ((197 : Int) == c) = false := by simpa using h
      go_wp2
      go_roundg 2
      case measure => omega
      case rel => exact ⟨5, acc, by omega, by omega, rfl, ⟨(by (with_reducible repeat (first | apply Kd.R_alloc | apply Kd.R_drewN | apply Kd.R_drew)); exact HO.out)⟩, ⟨(by repeat (first | (with_reducible first | exact HB.out | apply below_alloc | apply pw_below_drewN | apply below_drew1) | exact HB.out))⟩, ⟨by rw [← HA.out]; simp [othersL, famO, h]⟩, ⟨by have := HL.out; omega⟩⟩
    ·have ii := oi5
     by_cases h : (83 : Int) = c
     ·subst h
      go_wp2_with (at_builtin; (refine Kd.R_append (Kd.int .i64) (w0 := w) w.heap.size rfl (.tmp 43) (.tmp 46) 57 3 (.int .i64 0) 8 rfl Tryz.underlying57 info_int rfl (by decide) (by omega) u4 acc (383) [.int .i64 (383)] (fun _ => True) (fun _ => False) rfl ?aX ?aP (fun _ hk => hk.elim) ?aF ?aO ?aB ?aS ?aL ?_); (case aX => (first | rfl | (simp [Act.eval]; done) | (simp [Act.eval] <;> rfl))); (case aP => exact rfl); (case aF => exact fun _ _ => trivial); (case aO => exact (by (with_reducible repeat (first | apply Kd.R_alloc | apply Kd.R_drewN | apply Kd.R_drew)); exact HO.out)); (case aB => exact (by repeat (first | (with_reducible first | exact HB.out | apply below_alloc | apply pw_below_drewN | apply below_drew1) | exact HB.out))); (case aS => exact (below_size (by repeat (first | (with_reducible first | exact HB.out | apply below_alloc | apply pw_below_drewN | apply below_drew1) | exact HB.out)))); (case aL => have := HL.out; omega); intro v1 w1 ho hb hg hat; have n0_ := Aside0.mk ho; have n1_ := Aside0.mk hb; clear HO HB ho hb hg hat; have HO := n0_; have HB := n1_; clear n0_ n1_)
      go_roundg 1
      case measure => omega
      case rel => exact ⟨6, acc ++ [383], by omega, by omega, rfl, ⟨(by (with_reducible repeat (first | apply Kd.R_alloc | apply Kd.R_drewN | apply Kd.R_drew)); exact HO.out)⟩, ⟨(by repeat (first | (with_reducible first | exact HB.out | apply below_alloc | apply pw_below_drewN | apply below_drew1) | exact HB.out))⟩, ⟨by rw [← HA.out]; simp [othersL, famO]⟩, ⟨by have := HL.out; simp; omega⟩⟩
     ·have h' : ((83 : Int) == c) = false := by simpa using h
      go_wp2
      go_roundg 1
      case measure => omega
      case rel => exact ⟨6, acc, by omega, by omega, rfl, ⟨(by (with_reducible repeat (first | apply Kd.R_alloc | apply Kd.R_drewN | apply Kd.R_drew)); exact HO.out)⟩, ⟨(by repeat (first | (with_reducible first | exact HB.out | apply below_alloc | apply pw_below_drewN | apply below_drew1) | exact HB.out))⟩, ⟨by rw [← HA.out]; simp [othersL, famO, h]⟩, ⟨by have := HL.out; omega⟩⟩
    ·have ii := oi6
     by_cases h : (937 : Int) = c
     ·subst h
      go_wp2_with (at_builtin; (refine Kd.R_append (Kd.int .i64) (w0 := w) w.heap.size rfl (.tmp 43) (.tmp 46) 57 3 (.int .i64 0) 8 rfl Tryz.underlying57 info_int rfl (by decide) (by omega) u4 acc (8486) [.int .i64 (8486)] (fun _ => True) (fun _ => False) rfl ?aX ?aP (fun _ hk => hk.elim) ?aF ?aO ?aB ?aS ?aL ?_); (case aX => (first | rfl | (simp [Act.eval]; done) | (simp [Act.eval] <;> rfl))); (case aP => exact rfl); (case aF => exact fun _ _ => trivial); (case aO => exact (by (with_reducible repeat (first | apply Kd.R_alloc | apply Kd.R_drewN | apply Kd.R_drew)); exact HO.out)); (case aB => exact (by repeat (first | (with_reducible first | exact HB.out | apply below_alloc | apply pw_below_drewN | apply below_drew1) | exact HB.out))); (case aS => exact (below_size (by repeat (first | (with_reducible first | exact HB.out | apply below_alloc | apply pw_below_drewN | apply below_drew1) | exact HB.out)))); (case aL => have := HL.out; omega); intro v1 w1 ho hb hg hat; have n0_ := Aside0.mk ho; have n1_ := Aside0.mk hb; clear HO HB ho hb hg hat; have HO := n0_; have HB := n1_; clear n0_ n1_)
      go_roundg 0
      case measure => omega
      case rel => exact ⟨7, acc ++ [8486], by omega, by omega, rfl, ⟨(by (with_reducible repeat (first | apply Kd.R_alloc | apply Kd.R_drewN | apply Kd.R_drew)); exact HO.out)⟩, ⟨(by repeat (first | (with_reducible first | exact HB.out | apply below_alloc | apply pw_below_drewN | apply below_drew1) | exact HB.out))⟩, ⟨by rw [← HA.out]; simp [othersL, famO]⟩, ⟨by have := HL.out; simp; omega⟩⟩
     ·have h' : ((937 : Int) == c) = false := by simpa using h
      go_wp2
      go_roundg 0
      case measure => omega
      case rel => exact ⟨7, acc, by omega, by omega, rfl, ⟨(by (with_reducible repeat (first | apply Kd.R_alloc | apply Kd.R_drewN | apply Kd.R_drew)); exact HO.out)⟩, ⟨(by repeat (first | (with_reducible first | exact HB.out | apply below_alloc | apply pw_below_drewN | apply below_drew1) | exact HB.out))⟩, ⟨by rw [← HA.out]; simp [othersL, famO, h]⟩, ⟨by have := HL.out; omega⟩⟩
  ·have ii := bi0
   by_cases h1 : (65 : Int) ≤ c
   ·by_cases h2 : c ≤ (90 : Int)
    ·go_wp2_with (at_builtin; (refine Kd.R_append (Kd.int .i64) (w0 := w) w.heap.size rfl (.tmp 27) (.tmp 32) 57 3 (.int .i64 0) 8 rfl Tryz.underlying57 info_int rfl (by decide) (by omega) u4 acc (c + 32) [.int .i64 (c + 32)] (fun _ => True) (fun _ => False) rfl ?aX ?aP (fun _ hk => hk.elim) ?aF ?aO ?aB ?aS ?aL ?_); (case aX => (first | rfl | (simp [Act.eval]; done) | (simp [Act.eval] <;> rfl))); (case aP => exact rfl); (case aF => exact fun _ _ => trivial); (case aO => exact (by (with_reducible repeat (first | apply Kd.R_alloc | apply Kd.R_drewN | apply Kd.R_drew)); exact HO.out)); (case aB => exact (by repeat (first | (with_reducible first | exact HB.out | apply below_alloc | apply pw_below_drewN | apply below_drew1) | exact HB.out))); (case aS => exact (below_size (by repeat (first | (with_reducible first | exact HB.out | apply below_alloc | apply pw_below_drewN | apply below_drew1) | exact HB.out)))); (case aL => have := HL.out; omega); intro v1 w1 ho hb hg hat; have n0_ := Aside0.mk ho; have n1_ := Aside0.mk hb; clear HO HB ho hb hg hat; have HO := n0_; have HB := n1_; clear n0_ n1_)
     go_roundg 6
     case measure => omega
     case rel => exact ⟨1, acc ++ [c + 32], by omega, by omega, rfl, ⟨(by (with_reducible repeat (first | apply Kd.R_alloc | apply Kd.R_drewN | apply Kd.R_drew)); exact HO.out)⟩, ⟨(by repeat (first | (with_reducible first | exact HB.out | apply below_alloc | apply pw_below_drewN | apply below_drew1) | exact HB.out))⟩, ⟨by rw [← HA.out]; simp only [blocksL, List.drop_succ_cons, List.drop_zero]; rw [famB_yes (lo := 65) (hi := 90) (by omega)]; simp⟩, ⟨by have := HL.out; simp; omega⟩⟩
    ·go_wp2
     go_roundg 6
     case measure => omega
     case rel => exact ⟨1, acc, by omega, by omega, rfl, ⟨(by (with_reducible repeat (first | apply Kd.R_alloc | apply Kd.R_drewN | apply Kd.R_drew)); exact HO.out)⟩, ⟨(by repeat (first | (with_reducible first | exact HB.out | apply below_alloc | apply pw_below_drewN | apply below_drew1) | exact HB.out))⟩, ⟨by rw [← HA.out]; simp only [blocksL, List.drop_succ_cons, List.drop_zero]; rw [famB_no (lo := 65) (hi := 90) (by omega)]⟩, ⟨by have := HL.out; omega⟩⟩
   ·go_wp2
    go_roundg 6
    case measure => omega
    case rel => exact ⟨1, acc, by omega, by omega, rfl, ⟨(by (with_reducible repeat (first | apply Kd.R_alloc | apply Kd.R_drewN | apply Kd.R_drew)); exact HO.out)⟩, ⟨(by repeat (first | (with_reducible first | exact HB.out | apply below_alloc | apply pw_below_drewN | apply below_drew1) | exact HB.out))⟩, ⟨by rw [← HA.out]; simp only [blocksL, List.drop_succ_cons, List.drop_zero]; rw [famB_no (lo := 65) (hi := 90) (by omega)]⟩, ⟨by have := HL.out; omega⟩⟩
  ·have ii := bi1
   by_cases h1 : (192 : Int) ≤ c
   ·by_cases h2 : c ≤ (214 : Int)
    ·go_wp2_with (at_builtin; (refine Kd.R_append (Kd.int .i64) (w0 := w) w.heap.size rfl (.tmp 27) (.tmp 32) 57 3 (.int .i64 0) 8 rfl Tryz.underlying57 info_int rfl (by decide) (by omega) u4 acc (c + 32) [.int .i64 (c + 32)] (fun _ => True) (fun _ => False) rfl ?aX ?aP (fun _ hk => hk.elim) ?aF ?aO ?aB ?aS ?aL ?_); (case aX => (first | rfl | (simp [Act.eval]; done) | (simp [Act.eval] <;> rfl))); (case aP => exact rfl); (case aF => exact fun _ _ => trivial); (case aO => exact (by (with_reducible repeat (first | apply Kd.R_alloc | apply Kd.R_drewN | apply Kd.R_drew)); exact HO.out)); (case aB => exact (by repeat (first | (with_reducible first | exact HB.out | apply below_alloc | apply pw_below_drewN | apply below_drew1) | exact HB.out))); (case aS => exact (below_size (by repeat (first | (with_reducible first | exact HB.out | apply below_alloc | apply pw_below_drewN | apply below_drew1) | exact HB.out)))); (case aL => have := HL.out; omega); intro v1 w1 ho hb hg hat; have n0_ := Aside0.mk ho; have n1_ := Aside0.mk hb; clear HO HB ho hb hg hat; have HO := n0_; have HB := n1_; clear n0_ n1_)
     go_roundg 5
     case measure => omega
     case rel => exact ⟨2, acc ++ [c + 32], by omega, by omega, rfl, ⟨(by (with_reducible repeat (first | apply Kd.R_alloc | apply Kd.R_drewN | apply Kd.R_drew)); exact HO.out)⟩, ⟨(by repeat (first | (with_reducible first | exact HB.out | apply below_alloc | apply pw_below_drewN | apply below_drew1) | exact HB.out))⟩, ⟨by rw [← HA.out]; simp only [blocksL, List.drop_succ_cons, List.drop_zero]; rw [famB_yes (lo := 192) (hi := 214) (by omega)]; simp⟩, ⟨by have := HL.out; simp; omega⟩⟩
    ·go_wp2
     go_roundg 5
     case measure => omega
     case rel => exact ⟨2, acc, by omega, by omega, rfl, ⟨(by (with_reducible repeat (first | apply Kd.R_alloc | apply Kd.R_drewN | apply Kd.R_drew)); exact HO.out)⟩, ⟨(by repeat (first | (with_reducible first | exact HB.out | apply below_alloc | apply pw_below_drewN | apply below_drew1) | exact HB.out))⟩, ⟨by rw [← HA.out]; simp only [blocksL, List.drop_succ_cons, List.drop_zero]; rw [famB_no (lo := 192) (hi := 214) (by omega)]⟩, ⟨by have := HL.out; omega⟩⟩
   ·go_wp2
    go_roundg 5
    case measure => omega
    case rel => exact ⟨2, acc, by omega, by omega, rfl, ⟨(by (with_reducible repeat (first | apply Kd.R_alloc | apply Kd.R_drewN | apply Kd.R_drew)); exact HO.out)⟩, ⟨(by repeat (first | (with_reducible first | exact HB.out | apply below_alloc | apply pw_below_drewN | apply below_drew1) | exact HB.out))⟩, ⟨by rw [← HA.out]; simp only [blocksL, List.drop_succ_cons, List.drop_zero]; rw [famB_no (lo := 192) (hi := 214) (by omega)]⟩, ⟨by have := HL.out; omega⟩⟩
  ·have ii := bi2
   by_cases h1 : (216 : Int) ≤ c
   ·by_cases h2 : c ≤ (222 : Int)
    ·go_wp2_with (at_builtin; (refine Kd.R_append (Kd.int .i64) (w0 := w) w.heap.size rfl (.tmp 27) (.tmp 32) 57 3 (.int .i64 0) 8 rfl Tryz.underlying57 info_int rfl (by decide) (by omega) u4 acc (c + 32) [.int .i64 (c + 32)] (fun _ => True) (fun _ => False) rfl ?aX ?aP (fun _ hk => hk.elim) ?aF ?aO ?aB ?aS ?aL ?_); (case aX => (first | rfl | (simp [Act.eval]; done) | (simp [Act.eval] <;> rfl))); (case aP => exact rfl); (case aF => exact fun _ _ => trivial); (case aO => exact (by (with_reducible repeat (first | apply Kd.R_alloc | apply Kd.R_drewN | apply Kd.R_drew)); exact HO.out)); (case aB => exact (by repeat (first | (with_reducible first | exact HB.out | apply below_alloc | apply pw_below_drewN | apply below_drew1) | exact HB.out))); (case aS => exact (below_size (by repeat (first | (with_reducible first | exact HB.out | apply below_alloc | apply pw_below_drewN | apply below_drew1) | exact HB.out)))); (case aL => have := HL.out; omega); intro v1 w1 ho hb hg hat; have n0_ := Aside0.mk ho; have n1_ := Aside0.mk hb; clear HO HB ho hb hg hat; have HO := n0_; have HB := n1_; clear n0_ n1_)
     go_roundg 4
     case measure => omega
     case rel => exact ⟨3, acc ++ [c + 32], by omega, by omega, rfl, ⟨(by (with_reducible repeat (first | apply Kd.R_alloc | apply Kd.R_drewN | apply Kd.R_drew)); exact HO.out)⟩, ⟨(by repeat (first | (with_reducible first | exact HB.out | apply below_alloc | apply pw_below_drewN | apply below_drew1) | exact HB.out))⟩, ⟨by rw [← HA.out]; simp only [blocksL, List.drop_succ_cons, List.drop_zero]; rw [famB_yes (lo := 216) (hi := 222) (by omega)]; simp⟩, ⟨by have := HL.out; simp; omega⟩⟩
    ·go_wp2
     go_roundg 4
     case measure => omega
     case rel => exact ⟨3, acc, by omega, by omega, rfl, ⟨(by (with_reducible repeat (first | apply Kd.R_alloc | apply Kd.R_drewN | apply Kd.R_drew)); exact HO.out)⟩, ⟨(by repeat (first | (with_reducible first | exact HB.out | apply below_alloc | apply pw_below_drewN | apply below_drew1) | exact HB.out))⟩, ⟨by rw [← HA.out]; simp only [blocksL, List.drop_succ_cons, List.drop_zero]; rw [famB_no (lo := 216) (hi := 222) (by omega)]⟩, ⟨by have := HL.out; omega⟩⟩
   ·go_wp2
    go_roundg 4
    case measure => omega
    case rel => exact ⟨3, acc, by omega, by omega, rfl, ⟨(by (with_reducible repeat (first | apply Kd.R_alloc | apply Kd.R_drewN | apply Kd.R_drew)); exact HO.out)⟩, ⟨(by repeat (first | (with_reducible first | exact HB.out | apply below_alloc | apply pw_below_drewN | apply below_drew1) | exact HB.out))⟩, ⟨by rw [← HA.out]; simp only [blocksL, List.drop_succ_cons, List.drop_zero]; rw [famB_no (lo := 216) (hi := 222) (by omega)]⟩, ⟨by have := HL.out; omega⟩⟩
  ·have ii := bi3
   by_cases h1 : (913 : Int) ≤ c
   ·by_cases h2 : c ≤ (929 : Int)
    ·go_wp2_with (at_builtin; (refine Kd.R_append (Kd.int .i64) (w0 := w) w.heap.size rfl (.tmp 27) (.tmp 32) 57 3 (.int .i64 0) 8 rfl Tryz.underlying57 info_int rfl (by decide) (by omega) u4 acc (c + 32) [.int .i64 (c + 32)] (fun _ => True) (fun _ => False) rfl ?aX ?aP (fun _ hk => hk.elim) ?aF ?aO ?aB ?aS ?aL ?_); (case aX => (first | rfl | (simp [Act.eval]; done) | (simp [Act.eval] <;> rfl))); (case aP => exact rfl); (case aF => exact fun _ _ => trivial); (case aO => exact (by (with_reducible repeat (first | apply Kd.R_alloc | apply Kd.R_drewN | apply Kd.R_drew)); exact HO.out)); (case aB => exact (by repeat (first | (with_reducible first | exact HB.out | apply below_alloc | apply pw_below_drewN | apply below_drew1) | exact HB.out))); (case aS => exact (below_size (by repeat (first | (with_reducible first | exact HB.out | apply below_alloc | apply pw_below_drewN | apply below_drew1) | exact HB.out)))); (case aL => have := HL.out; omega); intro v1 w1 ho hb hg hat; have n0_ := Aside0.mk ho; have n1_ := Aside0.mk hb; clear HO HB ho hb hg hat; have HO := n0_; have HB := n1_; clear n0_ n1_)
     go_roundg 3
     case measure => omega
     case rel => exact ⟨4, acc ++ [c + 32], by omega, by omega, rfl, ⟨(by (with_reducible repeat (first | apply Kd.R_alloc | apply Kd.R_drewN | apply Kd.R_drew)); exact HO.out)⟩, ⟨(by repeat (first | (with_reducible first | exact HB.out | apply below_alloc | apply pw_below_drewN | apply below_drew1) | exact HB.out))⟩, ⟨by rw [← HA.out]; simp only [blocksL, List.drop_succ_cons, List.drop_zero]; rw [famB_yes (lo := 913) (hi := 929) (by omega)]; simp⟩, ⟨by have := HL.out; simp; omega⟩⟩
    ·go_wp2
     go_roundg 3
     case measure => omega
     case rel => exact ⟨4, acc, by omega, by omega, rfl, ⟨(by (with_reducible repeat (first | apply Kd.R_alloc | apply Kd.R_drewN | apply Kd.R_drew)); exact HO.out)⟩, ⟨(by repeat (first | (with_reducible first | exact HB.out | apply below_alloc | apply pw_below_drewN | apply below_drew1) | exact HB.out))⟩, ⟨by rw [← HA.out]; simp only [blocksL, List.drop_succ_cons, List.drop_zero]; rw [famB_no (lo := 913) (hi := 929) (by omega)]⟩, ⟨by have := HL.out; omega⟩⟩
   ·go_wp2
    go_roundg 3
    case measure => omega
    case rel => exact ⟨4, acc, by omega, by omega, rfl, ⟨(by (with_reducible repeat (first | apply Kd.R_alloc | apply Kd.R_drewN | apply Kd.R_drew)); exact HO.out)⟩, ⟨(by repeat (first | (with_reducible first | exact HB.out | apply below_alloc | apply pw_below_drewN | apply below_drew1) | exact HB.out))⟩, ⟨by rw [← HA.out]; simp only [blocksL, List.drop_succ_cons, List.drop_zero]; rw [famB_no (lo := 913) (hi := 929) (by omega)]⟩, ⟨by have := HL.out; omega⟩⟩
  ·have ii := bi4
   by_cases h1 : (931 : Int) ≤ c
   ·by_cases h2 : c ≤ (939 : Int)
    ·go_wp2_with (at_builtin; (refine Kd.R_append (Kd.int .i64) (w0 := w) w.heap.size rfl (.tmp 27) (.tmp 32) 57 3 (.int .i64 0) 8 rfl Tryz.underlying57 info_int rfl (by decide) (by omega) u4 acc (c + 32) [.int .i64 (c + 32)] (fun _ => True) (fun _ => False) rfl ?aX ?aP (fun _ hk => hk.elim) ?aF ?aO ?aB ?aS ?aL ?_); (case aX => (first | rfl | (simp [Act.eval]; done) | (simp [Act.eval] <;> rfl))); (case aP => exact rfl); (case aF => exact fun _ _ => trivial); (case aO => exact (by (with_reducible repeat (first | apply Kd.R_alloc | apply Kd.R_drewN | apply Kd.R_drew)); exact HO.out)); (case aB => exact (by repeat (first | (with_reducible first | exact HB.out | apply below_alloc | apply pw_below_drewN | apply below_drew1) | exact HB.out))); (case aS => exact (below_size (by repeat (first | (with_reducible first | exact HB.out | apply below_alloc | apply pw_below_drewN | apply below_drew1) | exact HB.out)))); (case aL => have := HL.out; omega); intro v1 w1 ho hb hg hat; have n0_ := Aside0.mk ho; have n1_ := Aside0.mk hb; clear HO HB ho hb hg hat; have HO := n0_; have HB := n1_; clear n0_ n1_)
     go_roundg 2
     case measure => omega
     case rel => exact ⟨5, acc ++ [c + 32], by omega, by omega, rfl, ⟨(by (with_reducible repeat (first | apply Kd.R_alloc | apply Kd.R_drewN | apply Kd.R_drew)); exact HO.out)⟩, ⟨(by repeat (first | (with_reducible first | exact HB.out | apply below_alloc | apply pw_below_drewN | apply below_drew1) | exact HB.out))⟩, ⟨by rw [← HA.out]; simp only [blocksL, List.drop_succ_cons, List.drop_zero]; rw [famB_yes (lo := 931) (hi := 939) (by omega)]; simp⟩, ⟨by have := HL.out; simp; omega⟩⟩
    ·go_wp2
     go_roundg 2
     case measure => omega
     case rel => exact ⟨5, acc, by omega, by omega, rfl, ⟨(by (with_reducible repeat (first | apply Kd.R_alloc | apply Kd.R_drewN | apply Kd.R_drew)); exact HO.out)⟩, ⟨(by repeat (first | (with_reducible first | exact HB.out | apply below_alloc | apply pw_below_drewN | apply below_drew1) | exact HB.out))⟩, ⟨by rw [← HA.out]; simp only [blocksL, List.drop_succ_cons, List.drop_zero]; rw [famB_no (lo := 931) (hi := 939) (by omega)]⟩, ⟨by have := HL.out; omega⟩⟩
   ·go_wp2
    go_roundg 2
    case measure => omega
    case rel => exact ⟨5, acc, by omega, by omega, rfl, ⟨(by (with_reducible repeat (first | apply Kd.R_alloc | apply Kd.R_drewN | apply Kd.R_drew)); exact HO.out)⟩, ⟨(by repeat (first | (with_reducible first | exact HB.out | apply below_alloc | apply pw_below_drewN | apply below_drew1) | exact HB.out))⟩, ⟨by rw [← HA.out]; simp only [blocksL, List.drop_succ_cons, List.drop_zero]; rw [famB_no (lo := 931) (hi := 939) (by omega)]⟩, ⟨by have := HL.out; omega⟩⟩
  ·have ii := bi5
   by_cases h1 : (1040 : Int) ≤ c
   ·by_cases h2 : c ≤ (1071 : Int)
    ·go_wp2_with (at_builtin; (refine Kd.R_append (Kd.int .i64) (w0 := w) w.heap.size rfl (.tmp 27) (.tmp 32) 57 3 (.int .i64 0) 8 rfl Tryz.underlying57 info_int rfl (by decide) (by omega) u4 acc (c + 32) [.int .i64 (c + 32)] (fun _ => True) (fun _ => False) rfl ?aX ?aP (fun _ hk => hk.elim) ?aF ?aO ?aB ?aS ?aL ?_); (case aX => (first | rfl | (simp [Act.eval]; done) | (simp [Act.eval] <;> rfl))); (case aP => exact rfl); (case aF => exact fun _ _ => trivial); (case aO => exact (by (with_reducible repeat (first | apply Kd.R_alloc | apply Kd.R_drewN | apply Kd.R_drew)); exact HO.out)); (case aB => exact (by repeat (first | (with_reducible first | exact HB.out | apply below_alloc | apply pw_below_drewN | apply below_drew1) | exact HB.out))); (case aS => exact (below_size (by repeat (first | (with_reducible first | exact HB.out | apply below_alloc | apply pw_below_drewN | apply below_drew1) | exact HB.out)))); (case aL => have := HL.out; omega); intro v1 w1 ho hb hg hat; have n0_ := Aside0.mk ho; have n1_ := Aside0.mk hb; clear HO HB ho hb hg hat; have HO := n0_; have HB := n1_; clear n0_ n1_)
     go_roundg 1
     case measure => omega
     case rel => exact ⟨6, acc ++ [c + 32], by omega, by omega, rfl, ⟨(by (with_reducible repeat (first | apply Kd.R_alloc | apply Kd.R_drewN | apply Kd.R_drew)); exact HO.out)⟩, ⟨(by repeat (first | (with_reducible first | exact HB.out | apply below_alloc | apply pw_below_drewN | apply below_drew1) | exact HB.out))⟩, ⟨by rw [← HA.out]; simp only [blocksL, List.drop_succ_cons, List.drop_zero]; rw [famB_yes (lo := 1040) (hi := 1071) (by omega)]; simp⟩, ⟨by have := HL.out; simp; omega⟩⟩
    ·go_wp2
     go_roundg 1
     case measure => omega
     case rel => exact ⟨6, acc, by omega, by omega, rfl, ⟨(by (with_reducible repeat (first | apply Kd.R_alloc | apply Kd.R_drewN | apply Kd.R_drew)); exact HO.out)⟩, ⟨(by repeat (first | (with_reducible first | exact HB.out | apply below_alloc | apply pw_below_drewN | apply below_drew1) | exact HB.out))⟩, ⟨by rw [← HA.out]; simp only [blocksL, List.drop_succ_cons, List.drop_zero]; rw [famB_no (lo := 1040) (hi := 1071) (by omega)]⟩, ⟨by have := HL.out; omega⟩⟩
   ·go_wp2
    go_roundg 1
    case measure => omega
    case rel => exact ⟨6, acc, by omega, by omega, rfl, ⟨(by (with_reducible repeat (first | apply Kd.R_alloc | apply Kd.R_drewN | apply Kd.R_drew)); exact HO.out)⟩, ⟨(by repeat (first | (with_reducible first | exact HB.out | apply below_alloc | apply pw_below_drewN | apply below_drew1) | exact HB.out))⟩, ⟨by rw [← HA.out]; simp only [blocksL, List.drop_succ_cons, List.drop_zero]; rw [famB_no (lo := 1040) (hi := 1071) (by omega)]⟩, ⟨by have := HL.out; omega⟩⟩
  ·have ii := bi6
   by_cases h1 : (1024 : Int) ≤ c
   ·by_cases h2 : c ≤ (1039 : Int)
    ·go_wp2_with (at_builtin; (refine Kd.R_append (Kd.int .i64) (w0 := w) w.heap.size rfl (.tmp 27) (.tmp 32) 57 3 (.int .i64 0) 8 rfl Tryz.underlying57 info_int rfl (by decide) (by omega) u4 acc (c + 80) [.int .i64 (c + 80)] (fun _ => True) (fun _ => False) rfl ?aX ?aP (fun _ hk => hk.elim) ?aF ?aO ?aB ?aS ?aL ?_); (case aX => (first | rfl | (simp [Act.eval]; done) | (simp [Act.eval] <;> rfl))); (case aP => exact rfl); (case aF => exact fun _ _ => trivial); (case aO => exact (by (with_reducible repeat (first | apply Kd.R_alloc | apply Kd.R_drewN | apply Kd.R_drew)); exact HO.out)); (case aB => exact (by repeat (first | (with_reducible first | exact HB.out | apply below_alloc | apply pw_below_drewN | apply below_drew1) | exact HB.out))); (case aS => exact (below_size (by repeat (first | (with_reducible first | exact HB.out | apply below_alloc | apply pw_below_drewN | apply below_drew1) | exact HB.out)))); (case aL => have := HL.out; omega); intro v1 w1 ho hb hg hat; have n0_ := Aside0.mk ho; have n1_ := Aside0.mk hb; clear HO HB ho hb hg hat; have HO := n0_; have HB := n1_; clear n0_ n1_)
     go_roundg 0
     case measure => omega
     case rel => exact ⟨7, acc ++ [c + 80], by omega, by omega, rfl, ⟨(by (with_reducible repeat (first | apply Kd.R_alloc | apply Kd.R_drewN | apply Kd.R_drew)); exact HO.out)⟩, ⟨(by repeat (first | (with_reducible first | exact HB.out | apply below_alloc | apply pw_below_drewN | apply below_drew1) | exact HB.out))⟩, ⟨by rw [← HA.out]; simp only [blocksL, List.drop_succ_cons, List.drop_zero]; rw [famB_yes (lo := 1024) (hi := 1039) (by omega)]; simp⟩, ⟨by have := HL.out; simp; omega⟩⟩
    ·go_wp2
     go_roundg 0
     case measure => omega
     case rel => exact ⟨7, acc, by omega, by omega, rfl, ⟨(by (with_reducible repeat (first | apply Kd.R_alloc | apply Kd.R_drewN | apply Kd.R_drew)); exact HO.out)⟩, ⟨(by repeat (first | (with_reducible first | exact HB.out | apply below_alloc | apply pw_below_drewN | apply below_drew1) | exact HB.out))⟩, ⟨by rw [← HA.out]; simp only [blocksL, List.drop_succ_cons, List.drop_zero]; rw [famB_no (lo := 1024) (hi := 1039) (by omega)]⟩, ⟨by have := HL.out; omega⟩⟩
   ·go_wp2
    go_roundg 0
    case measure => omega
    case rel => exact ⟨7, acc, by omega, by omega, rfl, ⟨(by (with_reducible repeat (first | apply Kd.R_alloc | apply Kd.R_drewN | apply Kd.R_drew)); exact HO.out)⟩, ⟨(by repeat (first | (with_reducible first | exact HB.out | apply below_alloc | apply pw_below_drewN | apply below_drew1) | exact HB.out))⟩, ⟨by rw [← HA.out]; simp only [blocksL, List.drop_succ_cons, List.drop_zero]; rw [famB_no (lo := 1024) (hi := 1039) (by omega)]⟩, ⟨by have := HL.out; omega⟩⟩
end Go.Proofs.YtheheijhijeljaaGreatDoorX

