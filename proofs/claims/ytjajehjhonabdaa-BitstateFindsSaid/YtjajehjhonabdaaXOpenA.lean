import Derived.Test.YtjajehjhonabdaaWWords
import Derived.Deep.SlicePairs
import Derived.WalkKit
import Derived.ProofKit
import Derived.OpenShut
import Derived.SizedLaws
import Derived.KernelRfl
import Derived.Test.YtjajehjhonabdaaXVerA
namespace Go.Proofs.YtjajehjhonabdaaX
open Go.RowKit Go.Proofs.YtjajehjhonabdaaW.PrintWords
open Go.ChangeShapes Go.WideShapes Go.Deep
set_option linter.unusedVariables false
set_option linter.unusedSimpArgs false
section
variable {H : Type} {enc : TypeId × Value → H} {P : Program} {W : World} {base : Nat} {spare : Nat → Bool} {held : Bool} {α β : Type}
/-- What comes in as a datum of a type lies there as a kind says. -/
def Opens (enc : TypeId × Value → H) (P : Program) (W : World) (base : Nat) (spare : Nat → Bool) (held : Bool) (t : TypeId) (d : Kd α) (G : α → Prop) : Prop :=
  ∀ fuel cs x, DataW.trod enc P W base spare held fuel t cs = some x → ∃ v, d.K W v cs ∧ G v
theorem Opens.int {t : TypeId} {k : IntKind} (ht : P.underlying t = some (.int k)) : Opens enc P W base spare held t (Kd.int k) (fun n => (Lit.int k n).wf = true) := by
  intro fuel cs x h
  obtain ⟨n, e, _, w⟩ := DataW.trod_int ht h
  exact ⟨n, e, w⟩
theorem Opens.bool {t : TypeId} (ht : P.underlying t = some .bool) : Opens enc P W base spare held t Kd.bool (fun _ => True) := by
  intro fuel cs x h
  obtain ⟨n, e, _⟩ := DataW.trod_bool ht h
  exact ⟨n, e, trivial⟩
theorem Opens.string {t : TypeId} (ht : P.underlying t = some .string) : Opens enc P W base spare held t Kd.string (fun s => s.size ≤ maxLen) := by
  intro fuel cs x h
  obtain ⟨n, e, _, w⟩ := DataW.trod_string ht h
  exact ⟨n, e, w⟩
theorem Opens.iso {t : TypeId} {d : Kd α} {G : α → Prop} (f : β → α) (g : α → β) (hfg : ∀ x, f (g x) = x) (h : Opens enc P W base spare held t d G) : Opens enc P W base spare held t (Kd.iso d f) (fun y => G (f y)) := by
  intro fuel cs x hx
  obtain ⟨v, h1, h2⟩ := h fuel cs x hx
  exact ⟨g v, by show d.K W (f (g v)) cs; rw [hfg]; exact h1, by show G (f (g v)); rw [hfg]; exact h2⟩
theorem Opens.mono {t : TypeId} {d : Kd α} {G G' : α → Prop} (h : Opens enc P W base spare held t d G) (hG : ∀ x, G x → G' x) : Opens enc P W base spare held t d G' := by
  intro fuel cs x hx
  obtain ⟨v, h1, h2⟩ := h fuel cs x hx
  exact ⟨v, h1, hG v h2⟩
theorem Opens.slice {t e : TypeId} {d : Kd α} {G : α → Prop} (e' : Nat) (ht : P.underlying t = some (.slice e)) (hc : P.cellsOf e = d.sz) (h : Opens enc P W base spare held e d G) : Opens enc P W base spare held t (Kd.slice e' d) (fun l => l.length ≤ maxLen ∧ ∀ x ∈ l, G x) := by
  intro fuel cs x hf
  rcases open_slice ht hf with ⟨rfl, _⟩ | ⟨ad, len, cap, m, n, D, Pl, rfl, _, hl, hm, hmm, _, hx⟩
  · exact ⟨[], ⟨none, 0, rfl, Nat.le_refl _, rfl, by simp, fun h => absurd h (by simp)⟩, by simp, fun x h => by cases h⟩
  · have hlm : len ≤ m := by rw [hmm]; split <;> omega
    have hq : ∀ i, i < len → ∃ q : (α × List Value), (d.K W q.1 q.2 ∧ G q.1) ∧ ∀ j u, q.2[j]? = some u → W.cell? (ad.add (i * d.sz + j)) = some u := by
      intro i hi
      obtain ⟨cs', h1, h2⟩ := hx i (by omega)
      rw [hc] at h1
      obtain ⟨_, hlen, hcell⟩ := World.cells?_some h1
      obtain ⟨v, hK, hG⟩ := h _ _ _ h2
      refine ⟨(v, cs'), ⟨hK, hG⟩, fun j u hj => ?_⟩
      have hj7 : j < d.sz := by have := (List.getElem?_eq_some_iff.1 hj).1; simp only at this; omega
      have hcj := hcell j hj7
      rw [Deep.add_add] at hcj
      rw [hcj]
      exact hj
    by_cases h0 : len = 0
    · subst h0
      exact ⟨[], ⟨some ad, cap, rfl, Nat.zero_le _, rfl, by simp, fun h => absurd h (by simp)⟩, by simp, fun x h => by cases h⟩
    have ⟨q0, _⟩ := hq 0 (by omega)
    have : Inhabited (α × List Value) := ⟨q0⟩
    obtain ⟨q, hq⟩ := choose_lt hq
    refine ⟨(List.range len).map fun i => (q i).1, ⟨some ad, cap, by simp, by simp; omega, by simp, by simp; unfold maxLen at hm; omega, fun _ => ⟨ad, rfl, ?_⟩⟩, by simp; omega, ?_⟩
    · intro j p hj
      rw [List.getElem?_map, Option.map_eq_some_iff] at hj
      obtain ⟨j', hj, rfl⟩ := hj
      obtain ⟨hlt, hj⟩ := List.getElem?_eq_some_iff.1 hj
      simp at hj hlt
      subst hj
      exact ⟨(q j).2, d.K_len (hq j hlt).1.1, (hq j hlt).1.1, (hq j hlt).2⟩
    · intro y hy
      obtain ⟨j, hj, rfl⟩ := List.mem_map.1 hy
      exact (hq j (List.mem_range.1 hj)).1.2
/-- Fields from a cell on. -/
def OpensF (enc : TypeId × Value → H) (P : Program) (W : World) (base : Nat) (spare : Nat → Bool) (held : Bool) (fs : List Field) (off : Nat) (d : Kd α) (G : α → Prop) : Prop :=
  ∀ (n : Nat) (cs : List Value), (∀ f ∈ fs, ∃ x, DataW.trod enc P W base spare held n f.type ((cs.drop f.offset).take (P.cellsOf f.type)) = some x) → cs.length = off + d.sz → ∃ v, d.K W v (cs.drop off) ∧ G v
theorem OpensF.one {f : Field} {off : Nat} {d : Kd α} {G : α → Prop} (ho : f.offset = off) (hc : P.cellsOf f.type = d.sz) (h : Opens enc P W base spare held f.type d G) : OpensF enc P W base spare held [f] off d G := by
  intro n cs hf hl
  obtain ⟨x, hx⟩ := hf f (by simp)
  rw [ho, hc, List.take_of_length_le (by rw [List.length_drop]; omega)] at hx
  exact h _ _ _ hx
theorem OpensF.cons {f : Field} {fs : List Field} {off off' : Nat} {a : Kd α} {b : Kd β} {G : α → Prop} {G' : β → Prop} (ho : f.offset = off) (hc : P.cellsOf f.type = a.sz) (he : off' = off + a.sz) (h : Opens enc P W base spare held f.type a G) (h' : OpensF enc P W base spare held fs off' b G') : OpensF enc P W base spare held (f :: fs) off (Kd.pair a b) (fun x => G x.1 ∧ G' x.2) := by
  intro n cs hf hl
  subst he
  have hl' : cs.length = off + a.sz + b.sz := by rw [hl]; show off + (a.sz + b.sz) = _; omega
  obtain ⟨x, hx⟩ := hf f (by simp)
  rw [ho, hc] at hx
  obtain ⟨v, h1, h2⟩ := h _ _ _ hx
  obtain ⟨u, g1, g2⟩ := h' n cs (fun f hf' => hf f (by simp [hf'])) hl'
  refine ⟨(v, u), ⟨_, _, ?_, h1, g1⟩, h2, g2⟩
  rw [← List.drop_drop, List.take_append_drop]
theorem Opens.struct {t : TypeId} {fs : Array Field} {d : Kd α} {G : α → Prop} (ht : P.underlying t = some (.struct fs)) (hc : P.cellsOf t = d.sz) (h : OpensF enc P W base spare held fs.toList 0 d G) : Opens enc P W base spare held t d G := by
  intro fuel cs x hf
  obtain ⟨xs, k, hk, hxy, hlen, hxl, hff⟩ := DataW.trod_struct ht hf
  obtain ⟨v, h1, h2⟩ := h k cs (fun f hf' => by
    obtain ⟨i, hi, rfl⟩ := List.mem_iff_getElem.1 hf'
    have := hff i _ (by rw [← Array.getElem?_toList]; exact List.getElem?_eq_getElem hi)
    rw [this, List.getElem?_eq_getElem (by simpa [hxl] using hi)]
    exact ⟨_, rfl⟩) (by rw [hlen, hc, Nat.zero_add])
  exact ⟨v, by simpa using h1, h2⟩
/-- A list that came in. -/
theorem Opens.list {t : TypeId} {e' : Nat} {d : Kd α} {G : List α → Prop} {a : Option Addr} {len cap : Nat} {dd : DataW H} {ps : List MemPlace} (h : Opens enc P W base spare held t (Kd.slice e' d) G) (ht : DataW.Trod enc P W base spare held t (.slice a len cap) dd ps) :
    ∃ zs : List α, zs.length = len ∧ len ≤ cap ∧ d.C W a len zs ∧ G zs := by
  obtain ⟨fuel, hf⟩ := ht
  obtain ⟨zs, ⟨A, c, e, hl, hC⟩, hG⟩ := h _ _ _ hf
  simp only [Value.cells, List.cons.injEq, and_true] at e
  injection e with e1 e2 e3
  subst e1 e2 e3
  exact ⟨zs, rfl, hl, hC, hG⟩
end
end Go.Proofs.YtjajehjhonabdaaX

namespace Go.Proofs.YtjajehjhonabdaaX
open Go.RowKit Go.Proofs.YtjajehjhonabdaaW.PrintWords
open Go.ChangeShapes Go.WideShapes Go.Deep
set_option linter.unusedVariables false
variable {H : Type} {enc : TypeId × Value → H} {W : World} {base : Nat} {spare : Nat → Bool} {held : Bool}
abbrev wfI (n : Int) : Prop := (Lit.int .i64 n).wf = true
def wf5 (x : I5) : Prop := wfI x.1 ∧ wfI x.2.1 ∧ wfI x.2.2.1 ∧ wfI x.2.2.2.1 ∧ wfI x.2.2.2.2
set_option maxRecDepth 100000 in
theorem opens_inst : Opens enc Try.prog W base spare held 52 kIn wf5 :=
  Opens.struct Try.underlying52 (by kernel_rfl) (OpensF.cons rfl (by kernel_rfl) rfl (Opens.int Try.underlying3) (OpensF.cons rfl (by kernel_rfl) rfl (Opens.int Try.underlying3) (OpensF.cons rfl (by kernel_rfl) rfl (Opens.int Try.underlying3) (OpensF.cons rfl (by kernel_rfl) rfl (Opens.int Try.underlying3) (OpensF.one rfl (by kernel_rfl) (Opens.int Try.underlying3))))))
def kProg : Kd (List I5 × (Int × Int)) := Kd.pair (Kd.slice 22 kIn) (Kd.pair (Kd.int .i64) (Kd.int .i64))
set_option maxRecDepth 100000 in
theorem opens_prog : Opens enc Try.prog W base spare held 24 kProg (fun x => (x.1.length ≤ maxLen ∧ ∀ y ∈ x.1, wf5 y) ∧ wfI x.2.1 ∧ wfI x.2.2) :=
  Opens.struct Try.underlying24 (by kernel_rfl) (OpensF.cons rfl (by kernel_rfl) rfl (Opens.slice 22 Try.underlying22 (by kernel_rfl) opens_inst) (OpensF.cons rfl (by kernel_rfl) rfl (Opens.int Try.underlying3) (OpensF.one rfl (by kernel_rfl) (Opens.int Try.underlying3))))
/-- A program that came in. -/
theorem open_prog {cs : Array Value} {d : DataW H} {ps : List MemPlace} (h : DataW.Trod enc Try.prog W base spare held 24 (.agg cs) d ps) :
    ∃ (zs : List I5) (A : Option Addr) (c : Nat) (a b : Int), cs = #[.slice A zs.length c, .int .i64 a, .int .i64 b] ∧ zs.length ≤ c ∧ Kd.C kIn W A zs.length zs ∧ (zs.length ≤ maxLen ∧ ∀ y ∈ zs, wf5 y) ∧ wfI a ∧ wfI b := by
  obtain ⟨fuel, hf⟩ := h
  obtain ⟨⟨zs, a, b⟩, hK, hG⟩ := opens_prog _ _ _ hf
  obtain ⟨c1, c2, e, ⟨A, c, rfl, hl, hC⟩, c3, c4, rfl, h3, h4⟩ := hK
  have e3 : c3 = [.int .i64 a] := h3
  have e4 : c4 = [.int .i64 b] := h4
  subst e3 e4
  simp [Value.cells] at e
  exact ⟨zs, A, c, a, b, Array.ext' e, hl, hC, hG⟩
end Go.Proofs.YtjajehjhonabdaaX
