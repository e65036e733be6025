import Derived.Test.YtcijpncjdccbbaaProg
import Derived.Test.YtcijpncjdccbbaaWMore
import Derived.Deep.SlicePairs
import Derived.WalkKit
import Derived.ProofKit
import Derived.OpenShut
import Derived.SizedLaws
import Derived.KernelRfl
namespace Go.Proofs.YtcijpncjdccbbaaX
open Go.RowKit Go.Proofs.YtcijpncjdccbbaaW.PrintWords Go.Proofs.YtcijpncjdccbbaaW.PrintLast Go.Proofs.YtcijpncjdccbbaaW.PrintMore
open Go.ChangeShapes Go.WideShapes Go.Deep
set_option linter.unusedVariables false
set_option linter.unusedSimpArgs false
/-- A call that is to be played. -/
structure ActT where
  kind : Int
  key : ByteArray
  s : ByteArray
  a : Int
  b : Int
  c : Int
  mark : Bool
instance : Inhabited ActT := ⟨⟨0, ByteArray.empty, ByteArray.empty, 0, 0, 0, false⟩⟩
def encAct (x : ActT) : List Value := [.int .i64 x.kind, .string x.key, .string x.s, .int .i64 x.a, .int .i64 x.b, .int .i64 x.c, .bool x.mark]
def kAct : Kd ActT := Kd.iso (Kd.pair (Kd.int .i64) (Kd.pair Kd.string (Kd.pair Kd.string (Kd.pair (Kd.int .i64) (Kd.pair (Kd.int .i64) (Kd.pair (Kd.int .i64) Kd.bool)))))) (fun x : ActT => (x.kind, x.key, x.s, x.a, x.b, x.c, x.mark))
theorem kAct_open {w : World} {x : ActT} {cs : List Value} (h : kAct.K w x cs) : cs = encAct x := by
  obtain ⟨_, _, rfl, rfl, _, _, rfl, rfl, _, _, rfl, rfl, _, _, rfl, rfl, _, _, rfl, rfl, _, _, rfl, rfl, rfl⟩ := h
  rfl
theorem kAct_mk (w : World) (x : ActT) : kAct.K w x (encAct x) :=
  ⟨[.int .i64 x.kind], _, rfl, rfl, [.string x.key], _, rfl, rfl, [.string x.s], _, rfl, rfl, [.int .i64 x.a], _, rfl, rfl, [.int .i64 x.b], _, rfl, rfl, [.int .i64 x.c], _, rfl, rfl, rfl⟩
theorem kAct_sz : kAct.sz = 7 := rfl
theorem open_acts {H : Type} {enc : TypeId × Value → H} {W : World} {base : Nat} {spare : Nat → Bool} {held : Bool} {a : Option Addr} {len cap : Nat} {d : DataW H} {ps : List MemPlace} (h : DataW.Trod enc Try.prog W base spare held 33 (.slice a len cap) d ps) :
    ∃ zs : List ActT, zs.length = len ∧ len ≤ cap ∧ Kd.C kAct W a len zs ∧ ∀ x ∈ zs, x.key.size ≤ maxLen := by
  obtain ⟨fuel, hf⟩ := h
  rcases open_slice Try.underlying33 hf with ⟨hcs, _⟩ | ⟨x, l, c, m, n, D, Pl, hcs, hb, hl, hm, hmm, _, hx⟩
  · simp [Value.cells] at hcs
    obtain ⟨rfl, rfl, rfl⟩ := hcs
    exact ⟨[], rfl, Nat.le_refl _, ⟨rfl, by omega, fun h => absurd h (by omega)⟩, fun x h => by cases h⟩
  · simp [Value.cells] at hcs
    obtain ⟨rfl, rfl, rfl⟩ := hcs
    have hlm : len ≤ m := by rw [hmm]; split <;> omega
    have ce : Try.prog.cellsOf 42 = 7 := by kernel_rfl
    have ci : Try.prog.cellsOf 3 = 1 := by kernel_rfl
    have cst : Try.prog.cellsOf 9 = 1 := by kernel_rfl
    have cb : Try.prog.cellsOf 4 = 1 := by kernel_rfl
    have hq : ∀ i, i < len → ∃ q : ActT, (∀ j u, (encAct q)[j]? = some u → W.cell? (x.add (i * 7 + j)) = some u) ∧ q.key.size ≤ maxLen := by
      intro i hi
      obtain ⟨cs', h1, h2⟩ := hx i (by omega)
      rw [ce] at h1
      obtain ⟨_, hlen, hcell⟩ := World.cells?_some h1
      obtain ⟨xs, k, hk, hxy, _, hxl, hf⟩ := DataW.trod_struct Try.underlying42 h2
      match xs, hxl, cs', hlen with
      | [y0, y1, y2, y3, y4, y5, y6], _, [v0, v1, v2, v3, v4, v5, v6], _ =>
        have g0 := hf 0 _ rfl
        have g1 := hf 1 _ rfl
        have g2 := hf 2 _ rfl
        have g3 := hf 3 _ rfl
        have g4 := hf 4 _ rfl
        have g5 := hf 5 _ rfl
        have g6 := hf 6 _ rfl
        simp [ci, cst, cb] at g0 g1 g2 g3 g4 g5 g6
        obtain ⟨n0, e0, _, _⟩ := DataW.trod_int (Try.underlying3) g0
        obtain ⟨n1, e1, _, hs1⟩ := DataW.trod_string (Try.underlying9) g1
        obtain ⟨n2, e2, _, _⟩ := DataW.trod_string (Try.underlying9) g2
        obtain ⟨n3, e3, _, _⟩ := DataW.trod_int (Try.underlying3) g3
        obtain ⟨n4, e4, _, _⟩ := DataW.trod_int (Try.underlying3) g4
        obtain ⟨n5, e5, _, _⟩ := DataW.trod_int (Try.underlying3) g5
        obtain ⟨n6, e6, _⟩ := DataW.trod_bool (Try.underlying4) g6
        simp only [List.cons.injEq, and_true] at e0 e1 e2 e3 e4 e5 e6
        subst e0 e1 e2 e3 e4 e5 e6
        refine ⟨⟨n0, n1, n2, n3, n4, n5, n6⟩, fun j u hj => ?_, hs1⟩
        have hj7 : j < 7 := by have := (List.getElem?_eq_some_iff.1 hj).1; simpa [encAct] using this
        have hc := hcell j hj7
        rw [Deep.add_add] at hc
        rw [hc]
        exact hj
    obtain ⟨q, hq⟩ := choose_lt hq
    refine ⟨(List.range len).map q, by simp, hl, ⟨by simp, by unfold maxLen at hm; omega, fun _ => ⟨x, rfl, ?_⟩⟩, ?_⟩
    · intro j p hj
      rw [List.getElem?_map, Option.map_eq_some_iff] at hj
      obtain ⟨j', hj, rfl⟩ := hj
      obtain ⟨hlt, hj⟩ := List.getElem?_eq_some_iff.1 hj
      simp at hj hlt
      subst hj
      exact ⟨encAct (q j), rfl, kAct_mk _ _, fun i u hi => by rw [kAct_sz]; exact (hq j hlt).1 i u hi⟩
    · intro y hy
      obtain ⟨j, hj, rfl⟩ := List.mem_map.1 hy
      exact (hq j (List.mem_range.1 hj)).2
end Go.Proofs.YtcijpncjdccbbaaX
