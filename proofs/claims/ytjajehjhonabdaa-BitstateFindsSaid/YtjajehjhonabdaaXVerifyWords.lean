import Derived.Test.YtjajehjhonabdaaXVerA
import Derived.Laws.Rows
import Derived.Test.YtjajehjhonabdaaXSort
import Derived.Deep.WholeRow
import Derived.Laws.BitsLemmas
import Derived.Deep.RegionHeld3
import Derived.StillTailTactics
import Derived.Deep.DrawnRows
namespace Go.Proofs.YtjajehjhonabdaaX
open Go.RowKit Go.Proofs.YtjajehjhonabdaaW.PrintWords Go.Proofs.YtjajehjhonabdaaW.PrintLast Go.Proofs.YtjajehjhonabdaaW.PrintMore
set_option linter.unusedVariables false
set_option linter.unusedSimpArgs false
def wordsV : Value := .agg #[.string ⟨#[]⟩, .bool false, .bool false, .bool false, .bool false, .string ⟨#[98, 121, 116, 101]⟩, .bool true, .bool true, .bool true, .bool false, .string ⟨#[115, 112, 108, 105, 116]⟩, .bool false, .bool false, .bool true, .bool true, .string ⟨#[99, 97, 112]⟩, .bool true, .bool false, .bool true, .bool false, .string ⟨#[97, 115, 115, 101, 114, 116]⟩, .bool true, .bool false, .bool true, .bool false, .string ⟨#[109, 97, 116, 99, 104]⟩, .bool false, .bool false, .bool false, .bool false, .string ⟨#[102, 97, 105, 108]⟩, .bool false, .bool false, .bool false, .bool false]
set_option maxHeartbeats 1000000 in
set_option maxRecDepth 100000 in
theorem words_any (w : World) : Calls Try.prog 89 #[] w fun e w' => e = .returned wordsV ∧ Below w.heap.size w w' := by
  go_enter Try.func89, Try.ntmps89
  go_wp2_with (refine wpList_store_row rfl 163 (.tmp 0) (.tmp 13) rfl w.heap.size #[.string ⟨#[]⟩, .bool false, .bool false, .bool false, .bool false, .string ⟨#[98, 121, 116, 101]⟩, .bool true, .bool true, .bool true, .bool false, .string ⟨#[115, 112, 108, 105, 116]⟩, .bool false, .bool false, .bool true, .bool true, .string ⟨#[99, 97, 112]⟩, .bool true, .bool false, .bool true, .bool false, .string ⟨#[97, 115, 115, 101, 114, 116]⟩, .bool true, .bool false, .bool true, .bool false, .string ⟨#[109, 97, 116, 99, 104]⟩, .bool false, .bool false, .bool false, .bool false, .string ⟨#[102, 97, 105, 108]⟩, .bool false, .bool false, .bool false, .bool false] rfl rfl 163 #[.string ⟨#[]⟩, .bool false, .bool false, .bool false, .bool false, .string ⟨#[]⟩, .bool false, .bool false, .bool false, .bool false, .string ⟨#[]⟩, .bool false, .bool false, .bool false, .bool false, .string ⟨#[]⟩, .bool false, .bool false, .bool false, .bool false, .string ⟨#[]⟩, .bool false, .bool false, .bool false, .bool false, .string ⟨#[]⟩, .bool false, .bool false, .bool false, .bool false, .string ⟨#[]⟩, .bool false, .bool false, .bool false, .bool false] (heap_alloc_last w _) (by kernel_rfl) rfl (by kernel_rfl) ?_)
  rw [World.setRow_alloc_new]
  exact bodyPost_ret (v := wordsV) (results_single rfl (.cell _ _ _ _ _ rfl (heap_alloc_last _ _) Try.underlying163 rfl (by kernel_rfl) .nil)) rfl ⟨rfl, (Below.refl _ _).alloc (Nat.le_refl _) _⟩
/-- Which fields an operation has. -/
def ownV (op : Int) : Bool × Bool × Bool × Bool := if op = 1 then (true, true, true, false) else if op = 2 then (false, false, true, true) else if op = 3 then (true, false, true, false) else if op = 4 then (true, false, true, false) else (false, false, false, false)
def fieldsL (x : I5) : List (Int × Bool) := [(x.2.1, (ownV x.1).1), (x.2.2.1, (ownV x.1).2.1), (x.2.2.2.1, (ownV x.1).2.2.1), (x.2.2.2.2, (ownV x.1).2.2.2)]
theorem fld_word1 (w : World) : (Instr.field 162 (.agg #[.string ⟨#[98, 121, 116, 101]⟩, .bool true, .bool true, .bool true, .bool false]) 1).run Try.prog w = .ok (.agg #[.bool true, .bool true, .bool true, .bool false]) w := by kernel_rfl
theorem idx_word1 (w : World) : (Instr.index 163 wordsV (.int .i64 1)).run Try.prog w = .ok (.agg #[.string ⟨#[98, 121, 116, 101]⟩, .bool true, .bool true, .bool true, .bool false]) w := by kernel_rfl
theorem fld_word2 (w : World) : (Instr.field 162 (.agg #[.string ⟨#[115, 112, 108, 105, 116]⟩, .bool false, .bool false, .bool true, .bool true]) 1).run Try.prog w = .ok (.agg #[.bool false, .bool false, .bool true, .bool true]) w := by kernel_rfl
theorem idx_word2 (w : World) : (Instr.index 163 wordsV (.int .i64 2)).run Try.prog w = .ok (.agg #[.string ⟨#[115, 112, 108, 105, 116]⟩, .bool false, .bool false, .bool true, .bool true]) w := by kernel_rfl
theorem fld_word3 (w : World) : (Instr.field 162 (.agg #[.string ⟨#[99, 97, 112]⟩, .bool true, .bool false, .bool true, .bool false]) 1).run Try.prog w = .ok (.agg #[.bool true, .bool false, .bool true, .bool false]) w := by kernel_rfl
theorem idx_word3 (w : World) : (Instr.index 163 wordsV (.int .i64 3)).run Try.prog w = .ok (.agg #[.string ⟨#[99, 97, 112]⟩, .bool true, .bool false, .bool true, .bool false]) w := by kernel_rfl
theorem fld_word4 (w : World) : (Instr.field 162 (.agg #[.string ⟨#[97, 115, 115, 101, 114, 116]⟩, .bool true, .bool false, .bool true, .bool false]) 1).run Try.prog w = .ok (.agg #[.bool true, .bool false, .bool true, .bool false]) w := by kernel_rfl
theorem idx_word4 (w : World) : (Instr.index 163 wordsV (.int .i64 4)).run Try.prog w = .ok (.agg #[.string ⟨#[97, 115, 115, 101, 114, 116]⟩, .bool true, .bool false, .bool true, .bool false]) w := by kernel_rfl
theorem fld_word5 (w : World) : (Instr.field 162 (.agg #[.string ⟨#[109, 97, 116, 99, 104]⟩, .bool false, .bool false, .bool false, .bool false]) 1).run Try.prog w = .ok (.agg #[.bool false, .bool false, .bool false, .bool false]) w := by kernel_rfl
theorem idx_word5 (w : World) : (Instr.index 163 wordsV (.int .i64 5)).run Try.prog w = .ok (.agg #[.string ⟨#[109, 97, 116, 99, 104]⟩, .bool false, .bool false, .bool false, .bool false]) w := by kernel_rfl
theorem fld_word6 (w : World) : (Instr.field 162 (.agg #[.string ⟨#[102, 97, 105, 108]⟩, .bool false, .bool false, .bool false, .bool false]) 1).run Try.prog w = .ok (.agg #[.bool false, .bool false, .bool false, .bool false]) w := by kernel_rfl
theorem idx_word6 (w : World) : (Instr.index 163 wordsV (.int .i64 6)).run Try.prog w = .ok (.agg #[.string ⟨#[102, 97, 105, 108]⟩, .bool false, .bool false, .bool false, .bool false]) w := by kernel_rfl
theorem kFd_fixed : Fixed kFd encField where
  len _ := rfl
  out h := by
    obtain ⟨_, _, rfl, rfl, rfl⟩ := h
    rfl
  make _ _ _ x := ⟨[_], [_], rfl, rfl, rfl⟩
theorem heap_at {w : World} {o : Obj} {k : Nat} (h : k = w.heap.size) : (w.alloc o).heap[k]? = some o := h ▸ heap_alloc_last w o
def FieldsPost (w : World) (l : List (Int × Bool)) (e : Ending) (w' : World) : Prop := ∃ v, e = .returned v ∧ Kd.R kFd 147 w' w.heap.size (fun _ => True) v l ∧ Below w.heap.size w w'
set_option maxHeartbeats 2000000 in
set_option maxRecDepth 100000 in
theorem fields_1 (lo hi x y : Int) (w : World) : Calls Try.prog 80 #[.agg #[.int .i64 1, .int .i64 lo, .int .i64 hi, .int .i64 x, .int .i64 y]] w (FieldsPost w (fieldsL (1, lo, hi, x, y))) := by
  have HI := idx_word1
  have HFL := fld_word1
  have hl := heap_alloc_last w (.cells #[.int .i64 1, .int .i64 lo, .int .i64 hi, .int .i64 x, .int .i64 y] 52)
  have c0 : (w.alloc (.cells #[.int .i64 1, .int .i64 lo, .int .i64 hi, .int .i64 x, .int .i64 y] 52)).cell? ⟨w.heap.size, 0, none⟩ = some (.int .i64 1) := (blk_cell hl 0).trans rfl
  have c1 : (w.alloc (.cells #[.int .i64 1, .int .i64 lo, .int .i64 hi, .int .i64 x, .int .i64 y] 52)).cell? ⟨w.heap.size, 1, none⟩ = some (.int .i64 lo) := (blk_cell hl 1).trans rfl
  have c2 : (w.alloc (.cells #[.int .i64 1, .int .i64 lo, .int .i64 hi, .int .i64 x, .int .i64 y] 52)).cell? ⟨w.heap.size, 2, none⟩ = some (.int .i64 hi) := (blk_cell hl 2).trans rfl
  have c3 : (w.alloc (.cells #[.int .i64 1, .int .i64 lo, .int .i64 hi, .int .i64 x, .int .i64 y] 52)).cell? ⟨w.heap.size, 3, none⟩ = some (.int .i64 x) := (blk_cell hl 3).trans rfl
  have c4 : (w.alloc (.cells #[.int .i64 1, .int .i64 lo, .int .i64 hi, .int .i64 x, .int .i64 y] 52)).cell? ⟨w.heap.size, 4, none⟩ = some (.int .i64 y) := (blk_cell hl 4).trans rfl
  have HL := Aside0.mk hl
  clear hl
  go_enter Try.func80, Try.ntmps80
  go_wp2_with fail
  go_region_held3 (fun w' => w'.cell? ⟨w.heap.size, 0, none⟩ = some (.int .i64 1) ∧ w'.cell? ⟨w.heap.size, 1, none⟩ = some (.int .i64 lo) ∧ w'.cell? ⟨w.heap.size, 2, none⟩ = some (.int .i64 hi) ∧ w'.cell? ⟨w.heap.size, 3, none⟩ = some (.int .i64 x) ∧ w'.cell? ⟨w.heap.size, 4, none⟩ = some (.int .i64 y)) (go_keep) ((go_at_call 89; refine (words_any _).mono ?_; rintro e w1 ⟨rfl, hb⟩; have hk0' := hb.cell (p := ⟨w.heap.size, 0, none⟩) (by first | (simp; done) | (simp; omega)); have hk1' := hb.cell (p := ⟨w.heap.size, 1, none⟩) (by first | (simp; done) | (simp; omega)); have hk2' := hb.cell (p := ⟨w.heap.size, 2, none⟩) (by first | (simp; done) | (simp; omega)); have hk3' := hb.cell (p := ⟨w.heap.size, 3, none⟩) (by first | (simp; done) | (simp; omega)); have hk4' := hb.cell (p := ⟨w.heap.size, 4, none⟩) (by first | (simp; done) | (simp; omega)); have hk0 := fun hh => hb.cell (p := ⟨w.heap.size + 1, 0, none⟩) hh; have hk1 := fun hh => hb.cell (p := ⟨w.heap.size + 1, 1, none⟩) hh; have hk2 := fun hh => hb.cell (p := ⟨w.heap.size + 1, 2, none⟩) hh; have hk3 := fun hh => hb.cell (p := ⟨w.heap.size + 1, 3, none⟩) hh; have hf0 := fun hh => hb.frozen (p := ⟨w.heap.size + 1, 0, none⟩) hh; have hf1 := fun hh => hb.frozen (p := ⟨w.heap.size + 1, 1, none⟩) hh; have hf2 := fun hh => hb.frozen (p := ⟨w.heap.size + 1, 2, none⟩) hh; have hf3 := fun hh => hb.frozen (p := ⟨w.heap.size + 1, 3, none⟩) hh; have HB := Aside0.mk hb; clear hb))
  all_goals go_wp2_with fail
  all_goals go_ret
  all_goals
    refine ⟨.slice (some ⟨_, 0, none⟩) 4 4, rfl, (fixed_R kFd_fixed).2 ⟨fun _ _ => trivial, rfl, .inr ⟨_, 4, _, rfl, ?_, heap_at (by simp), Nat.le_refl _, by decide, rfl, rfl⟩⟩, ?_⟩
    · have := HB.out.size
      simp at this ⊢
      omega
    · repeat (first | exact Below.refl _ _ | apply below_alloc | apply below_drew1 | apply pw_below_drewN | (refine Below.setCell ?_ (by first | (simp; done) | (simp; omega)) _) | (refine Below.trans ?_ (HB.out.mono (by first | (simp; done) | (simp; omega)))))
set_option maxHeartbeats 2000000 in
set_option maxRecDepth 100000 in
theorem fields_2 (lo hi x y : Int) (w : World) : Calls Try.prog 80 #[.agg #[.int .i64 2, .int .i64 lo, .int .i64 hi, .int .i64 x, .int .i64 y]] w (FieldsPost w (fieldsL (2, lo, hi, x, y))) := by
  have HI := idx_word2
  have HFL := fld_word2
  have hl := heap_alloc_last w (.cells #[.int .i64 2, .int .i64 lo, .int .i64 hi, .int .i64 x, .int .i64 y] 52)
  have c0 : (w.alloc (.cells #[.int .i64 2, .int .i64 lo, .int .i64 hi, .int .i64 x, .int .i64 y] 52)).cell? ⟨w.heap.size, 0, none⟩ = some (.int .i64 2) := (blk_cell hl 0).trans rfl
  have c1 : (w.alloc (.cells #[.int .i64 2, .int .i64 lo, .int .i64 hi, .int .i64 x, .int .i64 y] 52)).cell? ⟨w.heap.size, 1, none⟩ = some (.int .i64 lo) := (blk_cell hl 1).trans rfl
  have c2 : (w.alloc (.cells #[.int .i64 2, .int .i64 lo, .int .i64 hi, .int .i64 x, .int .i64 y] 52)).cell? ⟨w.heap.size, 2, none⟩ = some (.int .i64 hi) := (blk_cell hl 2).trans rfl
  have c3 : (w.alloc (.cells #[.int .i64 2, .int .i64 lo, .int .i64 hi, .int .i64 x, .int .i64 y] 52)).cell? ⟨w.heap.size, 3, none⟩ = some (.int .i64 x) := (blk_cell hl 3).trans rfl
  have c4 : (w.alloc (.cells #[.int .i64 2, .int .i64 lo, .int .i64 hi, .int .i64 x, .int .i64 y] 52)).cell? ⟨w.heap.size, 4, none⟩ = some (.int .i64 y) := (blk_cell hl 4).trans rfl
  have HL := Aside0.mk hl
  clear hl
  go_enter Try.func80, Try.ntmps80
  go_wp2_with fail
  go_region_held3 (fun w' => w'.cell? ⟨w.heap.size, 0, none⟩ = some (.int .i64 2) ∧ w'.cell? ⟨w.heap.size, 1, none⟩ = some (.int .i64 lo) ∧ w'.cell? ⟨w.heap.size, 2, none⟩ = some (.int .i64 hi) ∧ w'.cell? ⟨w.heap.size, 3, none⟩ = some (.int .i64 x) ∧ w'.cell? ⟨w.heap.size, 4, none⟩ = some (.int .i64 y)) (go_keep) ((go_at_call 89; refine (words_any _).mono ?_; rintro e w1 ⟨rfl, hb⟩; have hk0' := hb.cell (p := ⟨w.heap.size, 0, none⟩) (by first | (simp; done) | (simp; omega)); have hk1' := hb.cell (p := ⟨w.heap.size, 1, none⟩) (by first | (simp; done) | (simp; omega)); have hk2' := hb.cell (p := ⟨w.heap.size, 2, none⟩) (by first | (simp; done) | (simp; omega)); have hk3' := hb.cell (p := ⟨w.heap.size, 3, none⟩) (by first | (simp; done) | (simp; omega)); have hk4' := hb.cell (p := ⟨w.heap.size, 4, none⟩) (by first | (simp; done) | (simp; omega)); have hk0 := fun hh => hb.cell (p := ⟨w.heap.size + 1, 0, none⟩) hh; have hk1 := fun hh => hb.cell (p := ⟨w.heap.size + 1, 1, none⟩) hh; have hk2 := fun hh => hb.cell (p := ⟨w.heap.size + 1, 2, none⟩) hh; have hk3 := fun hh => hb.cell (p := ⟨w.heap.size + 1, 3, none⟩) hh; have hf0 := fun hh => hb.frozen (p := ⟨w.heap.size + 1, 0, none⟩) hh; have hf1 := fun hh => hb.frozen (p := ⟨w.heap.size + 1, 1, none⟩) hh; have hf2 := fun hh => hb.frozen (p := ⟨w.heap.size + 1, 2, none⟩) hh; have hf3 := fun hh => hb.frozen (p := ⟨w.heap.size + 1, 3, none⟩) hh; have HB := Aside0.mk hb; clear hb))
  all_goals go_wp2_with fail
  all_goals go_ret
  all_goals
    refine ⟨.slice (some ⟨_, 0, none⟩) 4 4, rfl, (fixed_R kFd_fixed).2 ⟨fun _ _ => trivial, rfl, .inr ⟨_, 4, _, rfl, ?_, heap_at (by simp), Nat.le_refl _, by decide, rfl, rfl⟩⟩, ?_⟩
    · have := HB.out.size
      simp at this ⊢
      omega
    · repeat (first | exact Below.refl _ _ | apply below_alloc | apply below_drew1 | apply pw_below_drewN | (refine Below.setCell ?_ (by first | (simp; done) | (simp; omega)) _) | (refine Below.trans ?_ (HB.out.mono (by first | (simp; done) | (simp; omega)))))
set_option maxHeartbeats 2000000 in
set_option maxRecDepth 100000 in
theorem fields_3 (lo hi x y : Int) (w : World) : Calls Try.prog 80 #[.agg #[.int .i64 3, .int .i64 lo, .int .i64 hi, .int .i64 x, .int .i64 y]] w (FieldsPost w (fieldsL (3, lo, hi, x, y))) := by
  have HI := idx_word3
  have HFL := fld_word3
  have hl := heap_alloc_last w (.cells #[.int .i64 3, .int .i64 lo, .int .i64 hi, .int .i64 x, .int .i64 y] 52)
  have c0 : (w.alloc (.cells #[.int .i64 3, .int .i64 lo, .int .i64 hi, .int .i64 x, .int .i64 y] 52)).cell? ⟨w.heap.size, 0, none⟩ = some (.int .i64 3) := (blk_cell hl 0).trans rfl
  have c1 : (w.alloc (.cells #[.int .i64 3, .int .i64 lo, .int .i64 hi, .int .i64 x, .int .i64 y] 52)).cell? ⟨w.heap.size, 1, none⟩ = some (.int .i64 lo) := (blk_cell hl 1).trans rfl
  have c2 : (w.alloc (.cells #[.int .i64 3, .int .i64 lo, .int .i64 hi, .int .i64 x, .int .i64 y] 52)).cell? ⟨w.heap.size, 2, none⟩ = some (.int .i64 hi) := (blk_cell hl 2).trans rfl
  have c3 : (w.alloc (.cells #[.int .i64 3, .int .i64 lo, .int .i64 hi, .int .i64 x, .int .i64 y] 52)).cell? ⟨w.heap.size, 3, none⟩ = some (.int .i64 x) := (blk_cell hl 3).trans rfl
  have c4 : (w.alloc (.cells #[.int .i64 3, .int .i64 lo, .int .i64 hi, .int .i64 x, .int .i64 y] 52)).cell? ⟨w.heap.size, 4, none⟩ = some (.int .i64 y) := (blk_cell hl 4).trans rfl
  have HL := Aside0.mk hl
  clear hl
  go_enter Try.func80, Try.ntmps80
  go_wp2_with fail
  go_region_held3 (fun w' => w'.cell? ⟨w.heap.size, 0, none⟩ = some (.int .i64 3) ∧ w'.cell? ⟨w.heap.size, 1, none⟩ = some (.int .i64 lo) ∧ w'.cell? ⟨w.heap.size, 2, none⟩ = some (.int .i64 hi) ∧ w'.cell? ⟨w.heap.size, 3, none⟩ = some (.int .i64 x) ∧ w'.cell? ⟨w.heap.size, 4, none⟩ = some (.int .i64 y)) (go_keep) ((go_at_call 89; refine (words_any _).mono ?_; rintro e w1 ⟨rfl, hb⟩; have hk0' := hb.cell (p := ⟨w.heap.size, 0, none⟩) (by first | (simp; done) | (simp; omega)); have hk1' := hb.cell (p := ⟨w.heap.size, 1, none⟩) (by first | (simp; done) | (simp; omega)); have hk2' := hb.cell (p := ⟨w.heap.size, 2, none⟩) (by first | (simp; done) | (simp; omega)); have hk3' := hb.cell (p := ⟨w.heap.size, 3, none⟩) (by first | (simp; done) | (simp; omega)); have hk4' := hb.cell (p := ⟨w.heap.size, 4, none⟩) (by first | (simp; done) | (simp; omega)); have hk0 := fun hh => hb.cell (p := ⟨w.heap.size + 1, 0, none⟩) hh; have hk1 := fun hh => hb.cell (p := ⟨w.heap.size + 1, 1, none⟩) hh; have hk2 := fun hh => hb.cell (p := ⟨w.heap.size + 1, 2, none⟩) hh; have hk3 := fun hh => hb.cell (p := ⟨w.heap.size + 1, 3, none⟩) hh; have hf0 := fun hh => hb.frozen (p := ⟨w.heap.size + 1, 0, none⟩) hh; have hf1 := fun hh => hb.frozen (p := ⟨w.heap.size + 1, 1, none⟩) hh; have hf2 := fun hh => hb.frozen (p := ⟨w.heap.size + 1, 2, none⟩) hh; have hf3 := fun hh => hb.frozen (p := ⟨w.heap.size + 1, 3, none⟩) hh; have HB := Aside0.mk hb; clear hb))
  all_goals go_wp2_with fail
  all_goals go_ret
  all_goals
    refine ⟨.slice (some ⟨_, 0, none⟩) 4 4, rfl, (fixed_R kFd_fixed).2 ⟨fun _ _ => trivial, rfl, .inr ⟨_, 4, _, rfl, ?_, heap_at (by simp), Nat.le_refl _, by decide, rfl, rfl⟩⟩, ?_⟩
    · have := HB.out.size
      simp at this ⊢
      omega
    · repeat (first | exact Below.refl _ _ | apply below_alloc | apply below_drew1 | apply pw_below_drewN | (refine Below.setCell ?_ (by first | (simp; done) | (simp; omega)) _) | (refine Below.trans ?_ (HB.out.mono (by first | (simp; done) | (simp; omega)))))
set_option maxHeartbeats 2000000 in
set_option maxRecDepth 100000 in
theorem fields_4 (lo hi x y : Int) (w : World) : Calls Try.prog 80 #[.agg #[.int .i64 4, .int .i64 lo, .int .i64 hi, .int .i64 x, .int .i64 y]] w (FieldsPost w (fieldsL (4, lo, hi, x, y))) := by
  have HI := idx_word4
  have HFL := fld_word4
  have hl := heap_alloc_last w (.cells #[.int .i64 4, .int .i64 lo, .int .i64 hi, .int .i64 x, .int .i64 y] 52)
  have c0 : (w.alloc (.cells #[.int .i64 4, .int .i64 lo, .int .i64 hi, .int .i64 x, .int .i64 y] 52)).cell? ⟨w.heap.size, 0, none⟩ = some (.int .i64 4) := (blk_cell hl 0).trans rfl
  have c1 : (w.alloc (.cells #[.int .i64 4, .int .i64 lo, .int .i64 hi, .int .i64 x, .int .i64 y] 52)).cell? ⟨w.heap.size, 1, none⟩ = some (.int .i64 lo) := (blk_cell hl 1).trans rfl
  have c2 : (w.alloc (.cells #[.int .i64 4, .int .i64 lo, .int .i64 hi, .int .i64 x, .int .i64 y] 52)).cell? ⟨w.heap.size, 2, none⟩ = some (.int .i64 hi) := (blk_cell hl 2).trans rfl
  have c3 : (w.alloc (.cells #[.int .i64 4, .int .i64 lo, .int .i64 hi, .int .i64 x, .int .i64 y] 52)).cell? ⟨w.heap.size, 3, none⟩ = some (.int .i64 x) := (blk_cell hl 3).trans rfl
  have c4 : (w.alloc (.cells #[.int .i64 4, .int .i64 lo, .int .i64 hi, .int .i64 x, .int .i64 y] 52)).cell? ⟨w.heap.size, 4, none⟩ = some (.int .i64 y) := (blk_cell hl 4).trans rfl
  have HL := Aside0.mk hl
  clear hl
  go_enter Try.func80, Try.ntmps80
  go_wp2_with fail
  go_region_held3 (fun w' => w'.cell? ⟨w.heap.size, 0, none⟩ = some (.int .i64 4) ∧ w'.cell? ⟨w.heap.size, 1, none⟩ = some (.int .i64 lo) ∧ w'.cell? ⟨w.heap.size, 2, none⟩ = some (.int .i64 hi) ∧ w'.cell? ⟨w.heap.size, 3, none⟩ = some (.int .i64 x) ∧ w'.cell? ⟨w.heap.size, 4, none⟩ = some (.int .i64 y)) (go_keep) ((go_at_call 89; refine (words_any _).mono ?_; rintro e w1 ⟨rfl, hb⟩; have hk0' := hb.cell (p := ⟨w.heap.size, 0, none⟩) (by first | (simp; done) | (simp; omega)); have hk1' := hb.cell (p := ⟨w.heap.size, 1, none⟩) (by first | (simp; done) | (simp; omega)); have hk2' := hb.cell (p := ⟨w.heap.size, 2, none⟩) (by first | (simp; done) | (simp; omega)); have hk3' := hb.cell (p := ⟨w.heap.size, 3, none⟩) (by first | (simp; done) | (simp; omega)); have hk4' := hb.cell (p := ⟨w.heap.size, 4, none⟩) (by first | (simp; done) | (simp; omega)); have hk0 := fun hh => hb.cell (p := ⟨w.heap.size + 1, 0, none⟩) hh; have hk1 := fun hh => hb.cell (p := ⟨w.heap.size + 1, 1, none⟩) hh; have hk2 := fun hh => hb.cell (p := ⟨w.heap.size + 1, 2, none⟩) hh; have hk3 := fun hh => hb.cell (p := ⟨w.heap.size + 1, 3, none⟩) hh; have hf0 := fun hh => hb.frozen (p := ⟨w.heap.size + 1, 0, none⟩) hh; have hf1 := fun hh => hb.frozen (p := ⟨w.heap.size + 1, 1, none⟩) hh; have hf2 := fun hh => hb.frozen (p := ⟨w.heap.size + 1, 2, none⟩) hh; have hf3 := fun hh => hb.frozen (p := ⟨w.heap.size + 1, 3, none⟩) hh; have HB := Aside0.mk hb; clear hb))
  all_goals go_wp2_with fail
  all_goals go_ret
  all_goals
    refine ⟨.slice (some ⟨_, 0, none⟩) 4 4, rfl, (fixed_R kFd_fixed).2 ⟨fun _ _ => trivial, rfl, .inr ⟨_, 4, _, rfl, ?_, heap_at (by simp), Nat.le_refl _, by decide, rfl, rfl⟩⟩, ?_⟩
    · have := HB.out.size
      simp at this ⊢
      omega
    · repeat (first | exact Below.refl _ _ | apply below_alloc | apply below_drew1 | apply pw_below_drewN | (refine Below.setCell ?_ (by first | (simp; done) | (simp; omega)) _) | (refine Below.trans ?_ (HB.out.mono (by first | (simp; done) | (simp; omega)))))
set_option maxHeartbeats 2000000 in
set_option maxRecDepth 100000 in
theorem fields_5 (lo hi x y : Int) (w : World) : Calls Try.prog 80 #[.agg #[.int .i64 5, .int .i64 lo, .int .i64 hi, .int .i64 x, .int .i64 y]] w (FieldsPost w (fieldsL (5, lo, hi, x, y))) := by
  have HI := idx_word5
  have HFL := fld_word5
  have hl := heap_alloc_last w (.cells #[.int .i64 5, .int .i64 lo, .int .i64 hi, .int .i64 x, .int .i64 y] 52)
  have c0 : (w.alloc (.cells #[.int .i64 5, .int .i64 lo, .int .i64 hi, .int .i64 x, .int .i64 y] 52)).cell? ⟨w.heap.size, 0, none⟩ = some (.int .i64 5) := (blk_cell hl 0).trans rfl
  have c1 : (w.alloc (.cells #[.int .i64 5, .int .i64 lo, .int .i64 hi, .int .i64 x, .int .i64 y] 52)).cell? ⟨w.heap.size, 1, none⟩ = some (.int .i64 lo) := (blk_cell hl 1).trans rfl
  have c2 : (w.alloc (.cells #[.int .i64 5, .int .i64 lo, .int .i64 hi, .int .i64 x, .int .i64 y] 52)).cell? ⟨w.heap.size, 2, none⟩ = some (.int .i64 hi) := (blk_cell hl 2).trans rfl
  have c3 : (w.alloc (.cells #[.int .i64 5, .int .i64 lo, .int .i64 hi, .int .i64 x, .int .i64 y] 52)).cell? ⟨w.heap.size, 3, none⟩ = some (.int .i64 x) := (blk_cell hl 3).trans rfl
  have c4 : (w.alloc (.cells #[.int .i64 5, .int .i64 lo, .int .i64 hi, .int .i64 x, .int .i64 y] 52)).cell? ⟨w.heap.size, 4, none⟩ = some (.int .i64 y) := (blk_cell hl 4).trans rfl
  have HL := Aside0.mk hl
  clear hl
  go_enter Try.func80, Try.ntmps80
  go_wp2_with fail
  go_region_held3 (fun w' => w'.cell? ⟨w.heap.size, 0, none⟩ = some (.int .i64 5) ∧ w'.cell? ⟨w.heap.size, 1, none⟩ = some (.int .i64 lo) ∧ w'.cell? ⟨w.heap.size, 2, none⟩ = some (.int .i64 hi) ∧ w'.cell? ⟨w.heap.size, 3, none⟩ = some (.int .i64 x) ∧ w'.cell? ⟨w.heap.size, 4, none⟩ = some (.int .i64 y)) (go_keep) ((go_at_call 89; refine (words_any _).mono ?_; rintro e w1 ⟨rfl, hb⟩; have hk0' := hb.cell (p := ⟨w.heap.size, 0, none⟩) (by first | (simp; done) | (simp; omega)); have hk1' := hb.cell (p := ⟨w.heap.size, 1, none⟩) (by first | (simp; done) | (simp; omega)); have hk2' := hb.cell (p := ⟨w.heap.size, 2, none⟩) (by first | (simp; done) | (simp; omega)); have hk3' := hb.cell (p := ⟨w.heap.size, 3, none⟩) (by first | (simp; done) | (simp; omega)); have hk4' := hb.cell (p := ⟨w.heap.size, 4, none⟩) (by first | (simp; done) | (simp; omega)); have hk0 := fun hh => hb.cell (p := ⟨w.heap.size + 1, 0, none⟩) hh; have hk1 := fun hh => hb.cell (p := ⟨w.heap.size + 1, 1, none⟩) hh; have hk2 := fun hh => hb.cell (p := ⟨w.heap.size + 1, 2, none⟩) hh; have hk3 := fun hh => hb.cell (p := ⟨w.heap.size + 1, 3, none⟩) hh; have hf0 := fun hh => hb.frozen (p := ⟨w.heap.size + 1, 0, none⟩) hh; have hf1 := fun hh => hb.frozen (p := ⟨w.heap.size + 1, 1, none⟩) hh; have hf2 := fun hh => hb.frozen (p := ⟨w.heap.size + 1, 2, none⟩) hh; have hf3 := fun hh => hb.frozen (p := ⟨w.heap.size + 1, 3, none⟩) hh; have HB := Aside0.mk hb; clear hb))
  all_goals go_wp2_with fail
  all_goals go_ret
  all_goals
    refine ⟨.slice (some ⟨_, 0, none⟩) 4 4, rfl, (fixed_R kFd_fixed).2 ⟨fun _ _ => trivial, rfl, .inr ⟨_, 4, _, rfl, ?_, heap_at (by simp), Nat.le_refl _, by decide, rfl, rfl⟩⟩, ?_⟩
    · have := HB.out.size
      simp at this ⊢
      omega
    · repeat (first | exact Below.refl _ _ | apply below_alloc | apply below_drew1 | apply pw_below_drewN | (refine Below.setCell ?_ (by first | (simp; done) | (simp; omega)) _) | (refine Below.trans ?_ (HB.out.mono (by first | (simp; done) | (simp; omega)))))
set_option maxHeartbeats 2000000 in
set_option maxRecDepth 100000 in
theorem fields_6 (lo hi x y : Int) (w : World) : Calls Try.prog 80 #[.agg #[.int .i64 6, .int .i64 lo, .int .i64 hi, .int .i64 x, .int .i64 y]] w (FieldsPost w (fieldsL (6, lo, hi, x, y))) := by
  have HI := idx_word6
  have HFL := fld_word6
  have hl := heap_alloc_last w (.cells #[.int .i64 6, .int .i64 lo, .int .i64 hi, .int .i64 x, .int .i64 y] 52)
  have c0 : (w.alloc (.cells #[.int .i64 6, .int .i64 lo, .int .i64 hi, .int .i64 x, .int .i64 y] 52)).cell? ⟨w.heap.size, 0, none⟩ = some (.int .i64 6) := (blk_cell hl 0).trans rfl
  have c1 : (w.alloc (.cells #[.int .i64 6, .int .i64 lo, .int .i64 hi, .int .i64 x, .int .i64 y] 52)).cell? ⟨w.heap.size, 1, none⟩ = some (.int .i64 lo) := (blk_cell hl 1).trans rfl
  have c2 : (w.alloc (.cells #[.int .i64 6, .int .i64 lo, .int .i64 hi, .int .i64 x, .int .i64 y] 52)).cell? ⟨w.heap.size, 2, none⟩ = some (.int .i64 hi) := (blk_cell hl 2).trans rfl
  have c3 : (w.alloc (.cells #[.int .i64 6, .int .i64 lo, .int .i64 hi, .int .i64 x, .int .i64 y] 52)).cell? ⟨w.heap.size, 3, none⟩ = some (.int .i64 x) := (blk_cell hl 3).trans rfl
  have c4 : (w.alloc (.cells #[.int .i64 6, .int .i64 lo, .int .i64 hi, .int .i64 x, .int .i64 y] 52)).cell? ⟨w.heap.size, 4, none⟩ = some (.int .i64 y) := (blk_cell hl 4).trans rfl
  have HL := Aside0.mk hl
  clear hl
  go_enter Try.func80, Try.ntmps80
  go_wp2_with fail
  go_region_held3 (fun w' => w'.cell? ⟨w.heap.size, 0, none⟩ = some (.int .i64 6) ∧ w'.cell? ⟨w.heap.size, 1, none⟩ = some (.int .i64 lo) ∧ w'.cell? ⟨w.heap.size, 2, none⟩ = some (.int .i64 hi) ∧ w'.cell? ⟨w.heap.size, 3, none⟩ = some (.int .i64 x) ∧ w'.cell? ⟨w.heap.size, 4, none⟩ = some (.int .i64 y)) (go_keep) ((go_at_call 89; refine (words_any _).mono ?_; rintro e w1 ⟨rfl, hb⟩; have hk0' := hb.cell (p := ⟨w.heap.size, 0, none⟩) (by first | (simp; done) | (simp; omega)); have hk1' := hb.cell (p := ⟨w.heap.size, 1, none⟩) (by first | (simp; done) | (simp; omega)); have hk2' := hb.cell (p := ⟨w.heap.size, 2, none⟩) (by first | (simp; done) | (simp; omega)); have hk3' := hb.cell (p := ⟨w.heap.size, 3, none⟩) (by first | (simp; done) | (simp; omega)); have hk4' := hb.cell (p := ⟨w.heap.size, 4, none⟩) (by first | (simp; done) | (simp; omega)); have hk0 := fun hh => hb.cell (p := ⟨w.heap.size + 1, 0, none⟩) hh; have hk1 := fun hh => hb.cell (p := ⟨w.heap.size + 1, 1, none⟩) hh; have hk2 := fun hh => hb.cell (p := ⟨w.heap.size + 1, 2, none⟩) hh; have hk3 := fun hh => hb.cell (p := ⟨w.heap.size + 1, 3, none⟩) hh; have hf0 := fun hh => hb.frozen (p := ⟨w.heap.size + 1, 0, none⟩) hh; have hf1 := fun hh => hb.frozen (p := ⟨w.heap.size + 1, 1, none⟩) hh; have hf2 := fun hh => hb.frozen (p := ⟨w.heap.size + 1, 2, none⟩) hh; have hf3 := fun hh => hb.frozen (p := ⟨w.heap.size + 1, 3, none⟩) hh; have HB := Aside0.mk hb; clear hb))
  all_goals go_wp2_with fail
  all_goals go_ret
  all_goals
    refine ⟨.slice (some ⟨_, 0, none⟩) 4 4, rfl, (fixed_R kFd_fixed).2 ⟨fun _ _ => trivial, rfl, .inr ⟨_, 4, _, rfl, ?_, heap_at (by simp), Nat.le_refl _, by decide, rfl, rfl⟩⟩, ?_⟩
    · have := HB.out.size
      simp at this ⊢
      omega
    · repeat (first | exact Below.refl _ _ | apply below_alloc | apply below_drew1 | apply pw_below_drewN | (refine Below.setCell ?_ (by first | (simp; done) | (simp; omega)) _) | (refine Below.trans ?_ (HB.out.mono (by first | (simp; done) | (simp; omega)))))
theorem fields_any (op lo hi x y : Int) (h : 1 ≤ op ∧ op ≤ 6) (w : World) : Calls Try.prog 80 #[.agg #[.int .i64 op, .int .i64 lo, .int .i64 hi, .int .i64 x, .int .i64 y]] w (FieldsPost w (fieldsL (op, lo, hi, x, y))) := by
  have : op = 1 ∨ op = 2 ∨ op = 3 ∨ op = 4 ∨ op = 5 ∨ op = 6 := by omega
  rcases this with rfl | rfl | rfl | rfl | rfl | rfl
  · exact fields_1 lo hi x y w
  · exact fields_2 lo hi x y w
  · exact fields_3 lo hi x y w
  · exact fields_4 lo hi x y w
  · exact fields_5 lo hi x y w
  · exact fields_6 lo hi x y w
end Go.Proofs.YtjajehjhonabdaaX
