import Derived.Maps.OwnSet
import Derived.Maps.Views
import Derived.Laws.CopyRow
import Derived.OwnWalk
namespace Go.Proofs.YtcijpncjdccbbaaX
open Go.ChangeMaps Go.MapKept
open Go.WideElems (Fit rd rg pl rd_val elemAt)
open Go.Maps (Keyed)
set_option linter.unusedVariables false
set_option linter.unusedSimpArgs false
/-! clear, of a map and of a row; what a map from texts to places holds. -/
section
variable {H : Type} {P : Program} {k : TypeId} {R : Value → Option (DataW H × List MemPlace)} {w : World} {b n : Nat} {D : DataW H}
theorem ownsMap_clear {t e : TypeId} (h : w.ownsMap P k R b n D) (ht : P.underlying t = some (.map k e)) (ty : TypeId) :
    ∃ w', (Builtin.clear_ #[t] ty #[.map (some b)]).run P w = .ok (.tuple #[]) w' ∧ w'.ownsMap P k R b 0 (.map []) ∧ w.mapTurned w' b := by
  obtain ⟨es, clock, hb, F, hs, rfl⟩ := h
  refine ⟨setBlock w b (.map #[] clock), ?_, ⟨#[], clock, heap_setBlock_same hb _, ⟨by simp, stamped_empty clock, by simp⟩, Nat.le_refl _, rfl⟩, ⟨es, clock, #[], clock, hb, rfl⟩⟩
  simp [Builtin.clear_, run_underlying ht, MapKept.run_getObj_map hb, MapKept.run_setObj_map _ hb, Result.andThen]
  rfl
theorem ownsMap_tight (h : w.ownsMap P k R b n D) : w.ownsMap P k R b (Maps.size D) D := by
  obtain ⟨es, clock, hb, F, hs, rfl⟩ := h
  refine ⟨es, clock, hb, F, ?_, rfl⟩
  simp [Maps.size, length_sorted]
end
section
variable {P : Program} {w : World} {ops : Array Oper} {rest : List Oper} {o : Oper} {a : Act} {Q : Exit → Act → World → Prop} {H : Type}
theorem wpList_clear_map (hg : o.guard = none) (m : Operand) (t k : TypeId) (hop : o.op = Op.call { callee := Callee.builtin Builtin.clear, args := #[m], argTypes := #[t] })
    (e : TypeId) (ht : P.underlying t = some (.map k e)) (R : Value → Option (DataW H × List MemPlace)) (b n : Nat) (D : DataW H)
    (hm : a.eval m = .map (some b)) (hown : w.ownsMap P k R b n D)
    (hK : ∀ w', w'.ownsMap P k R b 0 (.map []) → w.mapTurned w' b → wpList P ops Q rest (a.put o.dst (.tuple #[])) w') :
    wpList P ops Q (o :: rest) a w := by
  refine wpList_plain hg fun K' hK' => ?_
  obtain ⟨w', hrun, r1, r2⟩ := ownsMap_clear hown ht o.type
  unfold Oper.wp
  simp [execOp, hop, resolve, invoke, builtin, hm, hrun, Result.andThen]
  exact hK' _ _ (hK w' r1 r2)
theorem zeroCells_nil (n : Nat) : (Builtin.zeroCells #[Value.pointer none] n).toList = List.replicate n (Value.pointer none) := by
  unfold Builtin.zeroCells
  rw [Array.toList_map]
  apply List.ext_getElem
  · simp
  · intro i h1 h2
    simp [Nat.mod_one]
/-- 'clear' of a row of pointers of the call's own. -/
theorem clear_row_run {t e ty : TypeId} (ht : P.underlying t = some (.slice e)) (hz : (zeroValue e).run P w = .ok (.pointer none) w) {g n cap : Nat} {cur : Array Value} (hh : w.heap[g]? = some (.cells cur e (0, 0))) (hs : cur.size = cap) (hn : n ≤ cap) :
    ∃ cur' : Array Value, cur'.size = cap ∧ (Builtin.clear_ #[t] ty #[.slice (some ⟨g, 0, none⟩) n cap]).run P w = .ok (.tuple #[]) (w.setRow g cur') := by
  by_cases h0 : n = 0
  · subst h0
    refine ⟨cur, hs, ?_⟩
    rw [setRow_self w g cur e (0, 0) hh]
    simp [Builtin.clear_, run_underlying ht, Result.andThen]
  · obtain ⟨n, rfl⟩ : ∃ m, n = m + 1 := ⟨n - 1, by omega⟩
    have hlen : (List.replicate (n + 1) (Value.pointer none)).length = n + 1 := by simp
    have hst := run_storeCells_at P g 0 e (List.replicate (n + 1) (Value.pointer none)) 0 cur w hh (by rw [hlen]; omega) (fun v hv => by rw [List.eq_of_mem_replicate hv]; rfl)
    refine ⟨(cur.toList.take (0 + 0) ++ List.replicate (n + 1) (Value.pointer none) ++ cur.toList.drop (0 + 0 + (List.replicate (n + 1) (Value.pointer none)).length)).toArray, ?_, ?_⟩
    · simp
      omega
    · have hzc : (Value.pointer none).cells = #[Value.pointer none] := rfl
      simp [Builtin.clear_, hz, hzc, zeroCells_nil, hst, run_underlying ht, Result.andThen]
end
end Go.Proofs.YtcijpncjdccbbaaX
