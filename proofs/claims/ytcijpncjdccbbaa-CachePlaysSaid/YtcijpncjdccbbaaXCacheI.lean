import Derived.Test.YtcijpncjdccbbaaProg
import Derived.Test.YtcijpncjdccbbaaXMapOps
import Derived.Test.YtcijpncjdccbbaaWMore
import Derived.Test.YtcijpncjdccbbaaWKept
import Derived.Carry
import Derived.WalkSpells
import Derived.Outline
import Derived.OwnWalk
import Derived.Deep.LoopGhost
import Derived.Deep.QuietTactic
import Derived.BigQuiet
import Derived.KernelRfl
import Derived.WalkKit
import Derived.RowKit3
namespace Go.Proofs.YtcijpncjdccbbaaX
open Go.ChangeMaps Go.MapKept Go.RowKit Go.Proofs.YtcijpncjdccbbaaW.PrintWords Go.Proofs.YtcijpncjdccbbaaW.PrintLast Go.Proofs.YtcijpncjdccbbaaW.PrintMore
open Go.Maps (Keyed)
set_option linter.unusedVariables false
set_option linter.unusedSimpArgs false
/-! A cache of numbers: what its blocks hold. -/
abbrev DM := DataW Unit
def klit (key : ByteArray) : Lit := .string key.data.toList
theorem klit_inj {a b : ByteArray} (h : klit a = klit b) : a = b := by
  unfold klit at h
  have h1 : a.data.toList = b.data.toList := by injection h
  have h2 : a.data = b.data := Array.toList_inj.1 h1
  cases a; cases b; simp at h2; rw [h2]
theorem klit_key (key : ByteArray) : WideAt.IsKeyLit (klit key) := by unfold klit; trivial
theorem law_string : Keyed Try.prog 9 := Go.Maps.string_keyed Try.underlying9
theorem zero_int (w : World) : (zeroValue 3).run Try.prog w = .ok (.int .i64 0) w := by kernel_rfl
structure MapOk (D : DM) (keys : List ByteArray) : Prop where
  tidy : Maps.Tidy D
  size : Maps.size D = keys.length
  at_ : ∀ i (h : i < keys.length), Maps.has D (klit keys[i]) = true ∧ ∀ z, D.atKey (klit keys[i]) z = .lit (.int .i64 i)
  none_ : ∀ k, k ∉ keys → Maps.has D (klit k) = false
theorem MapOk.nil : MapOk (.map []) [] := ⟨Maps.tidy_empty, rfl, fun i h => by simp at h, fun k _ => rfl⟩
theorem MapOk.put {D : DM} {keys : List ByteArray} {k : ByteArray} (h : MapOk D keys) (hk : k ∉ keys) : MapOk (D.put (klit k) (.lit (.int .i64 keys.length))) (keys ++ [k]) := by
  refine ⟨h.tidy.put (klit_key k) _, ?_, fun i hi => ?_, fun k' hk' => ?_⟩
  · rw [Maps.size_put h.tidy, h.none_ k hk, h.size, List.length_append]
    rfl
  · by_cases hlt : i < keys.length
    · have e : (keys ++ [k])[i] = keys[i] := List.getElem_append_left hlt
      rw [e]
      have hne : klit keys[i] ≠ klit k := fun e => hk (klit_inj e ▸ List.getElem_mem hlt)
      rw [Maps.has_put_other hne]
      exact ⟨(h.at_ i hlt).1, fun z => by rw [Maps.atKey_put_other hne]; exact (h.at_ i hlt).2 z⟩
    · have ei : i = keys.length := by simp at hi; omega
      subst ei
      have e : (keys ++ [k])[keys.length] = k := by simp
      rw [e]
      exact ⟨Maps.has_put_same h.tidy.isMap (klit_key k) _, fun z => Maps.atKey_put_same h.tidy.isMap (klit_key k) _ z⟩
  · have h1 : k' ∉ keys := fun e => hk' (List.mem_append_left _ e)
    have hne : klit k' ≠ klit k := fun e => hk' (List.mem_append_right _ (by rw [klit_inj e]; simp))
    rw [Maps.has_put_other hne]
    exact h.none_ k' h1
/-- A thing, its key, and what follows it. -/
structure ThI where
  key : ByteArray
  s : Int
  lk : Nat → Int × Bool × Bool
def KeptI (w : World) (p : Nat) (s : Int) (lk : Nat → Int × Bool × Bool) : Prop :=
  ∃ cells : Array Value, w.heap[p]? = some (.cells cells 72 (0, 0)) ∧ cells.size = 772 ∧ cells[0]? = some (.int .i64 s) ∧ ∀ b, b ≤ 256 → cells[1 + b * 3]? = some (.int .i64 (lk b).1) ∧ cells[1 + b * 3 + 1]? = some (.bool (lk b).2.1) ∧ cells[1 + b * 3 + 2]? = some (.bool (lk b).2.2)
def kPtr : Kd Nat := Kd.scalar (fun p => .pointer (some ⟨p, 0, none⟩)) (fun _ => rfl)
structure RepI (w : World) (base C : Nat) (most fl : Int) (ts : List ThI) (M : Nat) (A : Option Addr) (cap : Nat) (ps : List Nat) (D : DM) : Prop where
  hC : w.heap[C]? = some (.cells #[.int .i64 most, .int .i64 fl, .map (some M), .slice A ts.length cap] 66 (0, 0))
  hbC : base ≤ C
  hbM : base ≤ M
  hM : w.ownsMap Try.prog 9 (plainElem Try.prog 3) M ts.length D
  hD : MapOk D (ts.map (fun t => t.key))
  hR : Kd.R kPtr 67 w base (fun _ => True) (.slice A ts.length cap) ps
  hlen : ps.length = ts.length
  hnd : ps.Nodup
  hk : ∀ i (h : i < ps.length) (h' : i < ts.length), base ≤ ps[i] ∧ KeptI w ps[i] ts[i].s ts[i].lk
def CacheI (w : World) (base C : Nat) (most fl : Int) (ts : List ThI) : Prop := ∃ M A cap ps D, RepI w base C most fl ts M A cap ps D
theorem RepI.below {w w' : World} {base C : Nat} {most fl : Int} {ts : List ThI} {M : Nat} {A : Option Addr} {cap : Nat} {ps : List Nat} {D : DM} (h : RepI w base C most fl ts M A cap ps D) (hb : Below w.heap.size w w') : RepI w' base C most fl ts M A cap ps D := by
  refine ⟨(hb.block C (blk_lt h.hC)).trans h.hC, h.hbC, h.hbM, ?_, h.hD, Kd.R_below h.hR hb, h.hlen, h.hnd, fun i h1 h2 => ⟨(h.hk i h1 h2).1, ?_⟩⟩
  · obtain ⟨es, clock, hb1, F, hs, hD⟩ := h.hM
    exact ⟨es, clock, (hb.block M (Array.getElem?_eq_some_iff.1 hb1).1).trans hb1, F, hs, hD⟩
  · obtain ⟨cells, h1, h2⟩ := (h.hk i h1 h2).2
    exact ⟨cells, (hb.block _ (blk_lt h1)).trans h1, h2⟩
theorem CacheI.below {w w' : World} {base C : Nat} {most fl : Int} {ts : List ThI} (h : CacheI w base C most fl ts) (hb : Below w.heap.size w w') : CacheI w' base C most fl ts := by
  obtain ⟨M, A, cap, ps, D, h⟩ := h
  exact ⟨M, A, cap, ps, D, h.below hb⟩
/-- Where a key stands. -/
def Stands (ts : List ThI) (key : ByteArray) (r : Int) : Prop := (∃ i, ∃ h : i < ts.length, ts[i].key = key ∧ r = i) ∨ ((∀ t ∈ ts, t.key ≠ key) ∧ r = -1)
theorem findI (w : World) (base C : Nat) (most fl : Int) (ts : List ThI) (h : CacheI w base C most fl ts) (key : ByteArray) (hkey : key.size ≤ maxLen) (r : Int) (hr : Stands ts key r) :
    Calls Try.prog 27 #[.pointer (some ⟨C, 0, none⟩), .string key] w fun e w' => e = .returned (.int .i64 r) ∧ Below w.heap.size w w' := by
  obtain ⟨M, A, cap, ps, D, h⟩ := h
  have hkl := WideMaps.keyOf_string_mk (P := Try.prog) Try.underlying9 hkey
  have c2 : w.cell? ⟨C, 2, none⟩ = some (.map (some M)) := (blk_cell h.hC 2).trans rfl
  have HOWN := Aside0.mk h.hM
  have HHAS := Aside0.mk (show (Maps.has D (klit key) = true ∧ (∀ z, D.atKey (klit key) z = .lit (.int .i64 r)) ∧ 0 ≤ r) ∨ (Maps.has D (klit key) = false ∧ r = -1) from by
    rcases hr with ⟨i, hi, rfl, rfl⟩ | ⟨h1, rfl⟩
    · have := h.hD.at_ i (by simpa using hi)
      rw [List.getElem_map] at this
      exact .inl ⟨this.1, this.2, by omega⟩
    · exact .inr ⟨h.hD.none_ key (fun hm => by obtain ⟨t, ht, e⟩ := List.mem_map.1 hm; exact h1 t ht e), rfl⟩)
  have HB := Aside0.mk (Below.refl w.heap.size w)
  clear h hr
  go_enter Try.func27, Try.ntmps27
  rcases HHAS.out with ⟨h1, h2, h3⟩ | ⟨h1, rfl⟩
  · have h2' := h2 (.lit (.int .i64 0))
    go_wp2_with (at_lookup; refine wpList_lookup_own_ok_int _ rfl _ _ 63 rfl 9 3 .i64 law_string Try.underlying63 Try.underlying3 (zero_int _) M _ D rfl HOWN.out _ _ rfl hkl ?_; intro cL hat hwc; obtain rfl : r = cL := by { have e := h2'.symm.trans hat; injection e with e; injection e with _ e }; have hh : Maps.has D (Lit.string key.data.toList) = true := h1; rw [hh])
    go_ret
    exact ⟨rfl, HB.out⟩
  · go_wp2_with (at_lookup; refine wpList_lookup_own_ok_int _ rfl _ _ 63 rfl 9 3 .i64 law_string Try.underlying63 Try.underlying3 (zero_int _) M _ D rfl HOWN.out _ _ rfl hkl ?_; intro cL hat hwc; have hh : Maps.has D (Lit.string key.data.toList) = false := h1; rw [hh])
    go_ret
    exact ⟨rfl, HB.out⟩
theorem hasI (w : World) (base C : Nat) (most fl : Int) (ts : List ThI) (h : CacheI w base C most fl ts) (n : Int) :
    Calls Try.prog 28 #[.pointer (some ⟨C, 0, none⟩), .int .i64 n] w fun e w' => e = .returned (.bool (decide (0 ≤ n ∧ n < ts.length))) ∧ w' = w := by
  obtain ⟨M, A, cap, ps, D, h⟩ := h
  have c3 : w.cell? ⟨C, 3, none⟩ = some (.slice A ts.length cap) := (blk_cell h.hC 3).trans rfl
  clear h
  generalize ts.length = m at c3 ⊢
  go_enter Try.func28, Try.ntmps28
  by_cases h0 : 0 ≤ n
  · go_wp2
    go_ret
    exact ⟨(show Ending.returned (.bool (decide (n < (m : Int)))) = .returned (.bool (decide (0 ≤ n ∧ n < (m : Int)))) from by simp [h0]), rfl⟩
  · go_wp2
    go_ret
    exact ⟨(show Ending.returned (.bool false) = .returned (.bool (decide (0 ≤ n) && decide (n < (m : Int)))) from by rw [decide_eq_false (show ¬ 0 ≤ n by omega)]; rfl), rfl⟩
theorem lenI (w : World) (base C : Nat) (most fl : Int) (ts : List ThI) (h : CacheI w base C most fl ts) :
    Calls Try.prog 10 #[.pointer (some ⟨C, 0, none⟩)] w fun e w' => e = .returned (.int .i64 ts.length) ∧ w' = w := by
  obtain ⟨M, A, cap, ps, D, h⟩ := h
  have c3 : w.cell? ⟨C, 3, none⟩ = some (.slice A ts.length cap) := (blk_cell h.hC 3).trans rfl
  clear h
  generalize ts.length = m at c3 ⊢
  go_enter Try.func10, Try.ntmps10
  go_wp2
  go_ret
  exact ⟨rfl, rfl⟩
theorem flushesI (w : World) (base C : Nat) (most fl : Int) (ts : List ThI) (h : CacheI w base C most fl ts) :
    Calls Try.prog 9 #[.pointer (some ⟨C, 0, none⟩)] w fun e w' => e = .returned (.int .i64 fl) ∧ w' = w := by
  obtain ⟨M, A, cap, ps, D, h⟩ := h
  have c1 : w.cell? ⟨C, 1, none⟩ = some (.int .i64 fl) := (blk_cell h.hC 1).trans rfl
  clear h
  go_enter Try.func9, Try.ntmps9
  go_wp2
  go_ret
  exact ⟨rfl, rfl⟩
end Go.Proofs.YtcijpncjdccbbaaX
