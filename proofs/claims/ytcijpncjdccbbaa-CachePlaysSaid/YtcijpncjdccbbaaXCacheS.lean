import Derived.Test.YtcijpncjdccbbaaProg
import Derived.Test.YtcijpncjdccbbaaXCacheLinkI
import Derived.Test.YtcijpncjdccbbaaWMore
import Derived.Test.YtcijpncjdccbbaaWKept
import Derived.Carry
import Derived.WalkSpells
import Derived.Outline
import Derived.OwnWalk
import Derived.Deep.LoopGhost
import Derived.Deep.QuietTactic
import Derived.BigQuiet
import Derived.KernelRfl
import Derived.WalkKit
import Derived.RowKit3
namespace Go.Proofs.YtcijpncjdccbbaaX
open Go.ChangeMaps Go.MapKept Go.RowKit Go.Proofs.YtcijpncjdccbbaaW.PrintWords Go.Proofs.YtcijpncjdccbbaaW.PrintLast Go.Proofs.YtcijpncjdccbbaaW.PrintMore
open Go.Maps (Keyed)
set_option linter.unusedVariables false
set_option linter.unusedSimpArgs false
/-- A thing, its key, and what follows it. -/
structure ThS where
  key : ByteArray
  s : ByteArray
  lk : Nat → Int × Bool × Bool
def KeptS (w : World) (p : Nat) (s : ByteArray) (lk : Nat → Int × Bool × Bool) : Prop :=
  ∃ cells : Array Value, w.heap[p]? = some (.cells cells 78 (0, 0)) ∧ cells.size = 772 ∧ cells[0]? = some (.string s) ∧ ∀ b, b ≤ 256 → cells[1 + b * 3]? = some (.int .i64 (lk b).1) ∧ cells[1 + b * 3 + 1]? = some (.bool (lk b).2.1) ∧ cells[1 + b * 3 + 2]? = some (.bool (lk b).2.2)
structure RepS (w : World) (base C : Nat) (most fl : Int) (ts : List ThS) (M : Nat) (A : Option Addr) (cap : Nat) (ps : List Nat) (D : DM) : Prop where
  hC : w.heap[C]? = some (.cells #[.int .i64 most, .int .i64 fl, .map (some M), .slice A ts.length cap] 76 (0, 0))
  hbC : base ≤ C
  hbM : base ≤ M
  hM : w.ownsMap Try.prog 9 (plainElem Try.prog 3) M ts.length D
  hD : MapOk D (ts.map (fun t => t.key))
  hR : Kd.R kPtr 79 w base (fun _ => True) (.slice A ts.length cap) ps
  hlen : ps.length = ts.length
  hnd : ps.Nodup
  hk : ∀ i (h : i < ps.length) (h' : i < ts.length), base ≤ ps[i] ∧ KeptS w ps[i] ts[i].s ts[i].lk
def CacheS (w : World) (base C : Nat) (most fl : Int) (ts : List ThS) : Prop := ∃ M A cap ps D, RepS w base C most fl ts M A cap ps D
theorem RepS.below {w w' : World} {base C : Nat} {most fl : Int} {ts : List ThS} {M : Nat} {A : Option Addr} {cap : Nat} {ps : List Nat} {D : DM} (h : RepS w base C most fl ts M A cap ps D) (hb : Below w.heap.size w w') : RepS w' base C most fl ts M A cap ps D := by
  refine ⟨(hb.block C (blk_lt h.hC)).trans h.hC, h.hbC, h.hbM, ?_, h.hD, Kd.R_below h.hR hb, h.hlen, h.hnd, fun i h1 h2 => ⟨(h.hk i h1 h2).1, ?_⟩⟩
  · obtain ⟨es, clock, hb1, F, hs, hD⟩ := h.hM
    exact ⟨es, clock, (hb.block M (Array.getElem?_eq_some_iff.1 hb1).1).trans hb1, F, hs, hD⟩
  · obtain ⟨cells, h1, h2⟩ := (h.hk i h1 h2).2
    exact ⟨cells, (hb.block _ (blk_lt h1)).trans h1, h2⟩
theorem CacheS.below {w w' : World} {base C : Nat} {most fl : Int} {ts : List ThS} (h : CacheS w base C most fl ts) (hb : Below w.heap.size w w') : CacheS w' base C most fl ts := by
  obtain ⟨M, A, cap, ps, D, h⟩ := h
  exact ⟨M, A, cap, ps, D, h.below hb⟩
/-- Where a key stands. -/
def StandsS (ts : List ThS) (key : ByteArray) (r : Int) : Prop := (∃ i, ∃ h : i < ts.length, ts[i].key = key ∧ r = i) ∨ ((∀ t ∈ ts, t.key ≠ key) ∧ r = -1)
theorem findS (w : World) (base C : Nat) (most fl : Int) (ts : List ThS) (h : CacheS w base C most fl ts) (key : ByteArray) (hkey : key.size ≤ maxLen) (r : Int) (hr : StandsS ts key r) :
    Calls Try.prog 21 #[.pointer (some ⟨C, 0, none⟩), .string key] w fun e w' => e = .returned (.int .i64 r) ∧ Below w.heap.size w w' := by
  obtain ⟨M, A, cap, ps, D, h⟩ := h
  have hkl := WideMaps.keyOf_string_mk (P := Try.prog) Try.underlying9 hkey
  have c2 : w.cell? ⟨C, 2, none⟩ = some (.map (some M)) := (blk_cell h.hC 2).trans rfl
  have HOWN := Aside0.mk h.hM
  have HHAS := Aside0.mk (show (Maps.has D (klit key) = true ∧ (∀ z, D.atKey (klit key) z = .lit (.int .i64 r)) ∧ 0 ≤ r) ∨ (Maps.has D (klit key) = false ∧ r = -1) from by
    rcases hr with ⟨i, hi, rfl, rfl⟩ | ⟨h1, rfl⟩
    · have := h.hD.at_ i (by simpa using hi)
      rw [List.getElem_map] at this
      exact .inl ⟨this.1, this.2, by omega⟩
    · exact .inr ⟨h.hD.none_ key (fun hm => by obtain ⟨t, ht, e⟩ := List.mem_map.1 hm; exact h1 t ht e), rfl⟩)
  have HB := Aside0.mk (Below.refl w.heap.size w)
  clear h hr
  go_enter Try.func21, Try.ntmps21
  rcases HHAS.out with ⟨h1, h2, h3⟩ | ⟨h1, rfl⟩
  · have h2' := h2 (.lit (.int .i64 0))
    go_wp2_with (at_lookup; refine wpList_lookup_own_ok_int _ rfl _ _ 63 rfl 9 3 .i64 law_string Try.underlying63 Try.underlying3 (zero_int _) M _ D rfl HOWN.out _ _ rfl hkl ?_; intro cL hat hwc; obtain rfl : r = cL := by { have e := h2'.symm.trans hat; injection e with e; injection e with _ e }; have hh : Maps.has D (Lit.string key.data.toList) = true := h1; rw [hh])
    go_ret
    exact ⟨rfl, HB.out⟩
  · go_wp2_with (at_lookup; refine wpList_lookup_own_ok_int _ rfl _ _ 63 rfl 9 3 .i64 law_string Try.underlying63 Try.underlying3 (zero_int _) M _ D rfl HOWN.out _ _ rfl hkl ?_; intro cL hat hwc; have hh : Maps.has D (Lit.string key.data.toList) = false := h1; rw [hh])
    go_ret
    exact ⟨rfl, HB.out⟩
theorem hasS (w : World) (base C : Nat) (most fl : Int) (ts : List ThS) (h : CacheS w base C most fl ts) (n : Int) :
    Calls Try.prog 29 #[.pointer (some ⟨C, 0, none⟩), .int .i64 n] w fun e w' => e = .returned (.bool (decide (0 ≤ n ∧ n < ts.length))) ∧ w' = w := by
  obtain ⟨M, A, cap, ps, D, h⟩ := h
  have c3 : w.cell? ⟨C, 3, none⟩ = some (.slice A ts.length cap) := (blk_cell h.hC 3).trans rfl
  clear h
  generalize ts.length = m at c3 ⊢
  go_enter Try.func29, Try.ntmps29
  by_cases h0 : 0 ≤ n
  · go_wp2
    go_ret
    exact ⟨(show Ending.returned (.bool (decide (n < (m : Int)))) = .returned (.bool (decide (0 ≤ n ∧ n < (m : Int)))) from by simp [h0]), rfl⟩
  · go_wp2
    go_ret
    exact ⟨(show Ending.returned (.bool false) = .returned (.bool (decide (0 ≤ n) && decide (n < (m : Int)))) from by rw [decide_eq_false (show ¬ 0 ≤ n by omega)]; rfl), rfl⟩
theorem lenS (w : World) (base C : Nat) (most fl : Int) (ts : List ThS) (h : CacheS w base C most fl ts) :
    Calls Try.prog 19 #[.pointer (some ⟨C, 0, none⟩)] w fun e w' => e = .returned (.int .i64 ts.length) ∧ w' = w := by
  obtain ⟨M, A, cap, ps, D, h⟩ := h
  have c3 : w.cell? ⟨C, 3, none⟩ = some (.slice A ts.length cap) := (blk_cell h.hC 3).trans rfl
  clear h
  generalize ts.length = m at c3 ⊢
  go_enter Try.func19, Try.ntmps19
  go_wp2
  go_ret
  exact ⟨rfl, rfl⟩
theorem flushesS (w : World) (base C : Nat) (most fl : Int) (ts : List ThS) (h : CacheS w base C most fl ts) :
    Calls Try.prog 20 #[.pointer (some ⟨C, 0, none⟩)] w fun e w' => e = .returned (.int .i64 fl) ∧ w' = w := by
  obtain ⟨M, A, cap, ps, D, h⟩ := h
  have c1 : w.cell? ⟨C, 1, none⟩ = some (.int .i64 fl) := (blk_cell h.hC 1).trans rfl
  clear h
  go_enter Try.func20, Try.ntmps20
  go_wp2
  go_ret
  exact ⟨rfl, rfl⟩
/-- What stands in blocks of other types stays. -/
def FrameS (w w' : World) : Prop := w.heap.size ≤ w'.heap.size ∧ ∀ (k : Nat) (cells : Array Value) (q : TypeId), w.heap[k]? = some (Obj.cells cells q (0, 0)) → q ≠ 76 → q ≠ 79 → q ≠ 78 → w'.heap[k]? = w.heap[k]?
theorem FrameS.below {w w' : World} (h : Below w.heap.size w w') : FrameS w w' := ⟨h.size, fun k cells q hk _ _ _ => h.block k (blk_lt hk)⟩
theorem FrameS.trans {w w' w2 : World} (h : FrameS w w') (g : FrameS w' w2) : FrameS w w2 := ⟨Nat.le_trans h.1 g.1, fun k cells q hk n1 n2 n3 => (g.2 k cells q ((h.2 k cells q hk n1 n2 n3).trans hk) n1 n2 n3).trans (h.2 k cells q hk n1 n2 n3)⟩
end Go.Proofs.YtcijpncjdccbbaaX
