import Derived.Test.YtjajehjhonabdaaXBitA
import Derived.Test.YtjajehjhonabdaaXVerifyMore
import Derived.Test.YtjajehjhonabdaaXBitB
namespace Go.Proofs.YtjajehjhonabdaaX
open Go.RowKit Go.Proofs.YtjajehjhonabdaaW.PrintWords Go.Proofs.YtjajehjhonabdaaW.PrintLast Go.Proofs.YtjajehjhonabdaaW.PrintMore
set_option linter.unusedVariables false
set_option linter.unusedSimpArgs false
/-! A search with a stack, where it lies. -/
open Bit
def jobVal : Job → Value
  | .visit p a => .iface 101 (.agg #[.int .i64 p, .int .i64 a])
  | .restore k h => .iface 104 (.agg #[.int .i64 k, .int .i64 h])
def kJob : Kd Job := Kd.scalar jobVal (fun j => by cases j <;> rfl)
theorem R_stay {α : Type} {enc : α → Value} {h1 : ∀ x, (enc x).oneCell' = true} {e : Nat} {w w1 : World} {base : Nat} {ok ok' : Nat → Prop} {v : Value} {xs : List α} (h : (Kd.scalar enc h1).R e w base ok v xs) (hm : ∀ k, v.ownBlock = some k → w1.heap[k]? = w.heap[k]?) (hk : ∀ k, v.ownBlock = some k → ok' k) : (Kd.scalar enc h1).R e w1 base ok' v xs := by
  have h2 : (Kd.scalar enc h1).R e w base (fun k => v.ownBlock = some k) v xs := Kd.R_of_own (Kd.own_of_R h) (fun k hk => hk)
  have h3 := Kd.R_move h2 hm
  exact Kd.R_of_own (Kd.own_of_R h3) hk
/-- A walker: its blocks lie behind 'base'. -/
structure WkI (W : World) (base gw gc gm gd : Nat) (t : ByteArray) (long : Bool) (rows cols : Nat) (S : List Nat) (vj vs vb : Value) (jobs : List Job) (sl : List Int) (best : Option (List Int)) (st : Nat) : Prop where
  hW : W.heap[gw]? = some (.cells #[.pointer (some ⟨gc, 0, none⟩), .string t, .bool long, .pointer (some ⟨gm, 0, none⟩), vj, vs, vb, .int .i64 st] 63 (0, 0))
  bw : base ≤ gw
  bm : base ≤ gm
  bd : base ≤ gd
  hM : MarksI W gm gd rows cols S
  hJ : Kd.R kJob 102 W base (fun _ => True) vj jobs
  hS : Kd.R (Kd.int .i64) 3 W base (fun _ => True) vs sl
  hN : best = none → vb = .slice none 0 0
  hB : ∀ b, best = some b → Kd.R (Kd.int .i64) 3 W base (fun k => some k ≠ vs.ownBlock) vb b ∧ b.length = sl.length
theorem own_type {α : Type} {d : Kd α} {e : Nat} {w : World} {base : Nat} {ok : Nat → Prop} {v : Value} {xs : List α} (h : d.R e w base ok v xs) {k : Nat} (hk : v.ownBlock = some k) {cells : Array Value} {q : Nat} (hc : w.heap[k]? = some (.cells cells q (0, 0))) : q = e := by
  obtain ⟨_, inner, ho, _⟩ := h
  obtain ⟨cells', h'⟩ := own_typed ho k hk
  rw [h'] at hc
  cases hc
  rfl
theorem wk_best {W w2 : World} {base gw gc gm gd : Nat} {t : ByteArray} {long : Bool} {rows cols : Nat} {S : List Nat} {vj vs vb : Value} {jobs : List Job} {sl : List Int} {best : Option (List Int)} {st : Nat} (h : WkI W base gw gc gm gd t long rows cols S vj vs vb jobs sl best st) (hbase : base ≤ W.heap.size) (hb : Below W.heap.size W w2) {g c : Nat} (hg : W.heap.size ≤ g) {ok : Nat → Prop} (ho : Kd.R (Kd.int .i64) 3 w2 W.heap.size ok (.slice (some ⟨g, 0, none⟩) sl.length c) sl) (a : Int) :
    WkI ((w2.setCell ⟨gw, 6, none⟩ (.slice (some ⟨g, 0, none⟩) sl.length c)).setCell ⟨g, 1, none⟩ (.int .i64 a)) base gw gc gm gd t long rows cols S vj vs (.slice (some ⟨g, 0, none⟩) sl.length c) jobs sl (some (sl.set 1 a)) st ∧ Below base W ((w2.setCell ⟨gw, 6, none⟩ (.slice (some ⟨g, 0, none⟩) sl.length c)).setCell ⟨g, 1, none⟩ (.int .i64 a)) := by
  have hgw := blk_lt h.hW
  have hne : g ≠ gw := by omega
  have keep : ∀ k, k < W.heap.size → k ≠ gw → ((w2.setCell ⟨gw, 6, none⟩ (.slice (some ⟨g, 0, none⟩) sl.length c)).setCell ⟨g, 1, none⟩ (.int .i64 a)).heap[k]? = W.heap[k]? := fun k hk hk2 => by
    rw [Below.heap_setCell _ _ _ _ (show k ≠ g by omega), Below.heap_setCell _ _ _ _ hk2]
    exact hb.block k hk
  have hM := h.hM
  obtain ⟨ws, m1, m2, m3⟩ := hM
  have n1 : gm ≠ gw := blk_ne m1 h.hW (by decide)
  have n2 : gd ≠ gw := blk_ne m2 h.hW (by decide)
  have rowk : ∀ {α : Type} {enc : α → Value} {h1 : ∀ x, (enc x).oneCell' = true} {e : Nat} {ok : Nat → Prop} {v : Value} {xs : List α}, (Kd.scalar enc h1).R e W base ok v xs → e ≠ 63 → ∀ k, v.ownBlock = some k → ((w2.setCell ⟨gw, 6, none⟩ (.slice (some ⟨g, 0, none⟩) sl.length c)).setCell ⟨g, 1, none⟩ (.int .i64 a)).heap[k]? = W.heap[k]? := fun hR he k hk => by
    obtain ⟨_, inner, ho', _⟩ := hR
    obtain ⟨cells, hc⟩ := own_typed ho' k hk
    exact keep k (blk_lt hc) (blk_ne hc h.hW he)
  refine ⟨⟨?_, h.bw, h.bm, h.bd, h.hM.keep (keep gm (blk_lt m1) n1) (keep gd (blk_lt m2) n2), R_stay h.hJ (rowk h.hJ (by decide)) (fun _ _ => trivial), R_stay h.hS (rowk h.hS (by decide)) (fun _ _ => trivial), fun hh => (by cases hh), fun b hb' => ?_⟩, ?_⟩
  · rw [Below.heap_setCell _ _ _ _ hne.symm]
    exact blk_put ((hb.block gw hgw).trans h.hW) 6 _ rfl
  · cases hb'
    refine ⟨?_, List.length_set⟩
    have h1 := R_stay (w1 := w2.setCell ⟨gw, 6, none⟩ (.slice (some ⟨g, 0, none⟩) sl.length c)) (ok' := fun k => some k ≠ vs.ownBlock) ho (fun k hk => by
      have hk2 : g = k := by simpa [Value.ownBlock] using hk
      subst hk2
      exact Below.heap_setCell _ _ _ _ hne) (fun k hk e => by
      have hk2 : g = k := by simpa [Value.ownBlock] using hk
      have := Kd.R_lt h.hS k e.symm
      omega)
    exact Kd.R_lower (Kd.R_putn h1 1 a) hbase
  · exact ((hb.mono hbase).setCell (p := ⟨gw, 6, none⟩) h.bw _).setCell (p := ⟨g, 1, none⟩) (Nat.le_trans hbase hg) _
theorem rd_get (b : List Int) (i : Nat) : rdOf 0 b (i : Int) = b.getD i 0 := by unfold rdOf; simp [List.getD_eq_getElem?_getD]
theorem nil_eq (w : World) : (Go.binOp .eql 32 (.slice none 0 0) (.slice none 0 0)).run Try.prog w = .ok (.bool true) w := by kernel_rfl
theorem some_eq (p : Addr) (n c : Nat) (w : World) : (Go.binOp .eql 32 (.slice (some p) n c) (.slice none 0 0)).run Try.prog w = .ok (.bool false) w := by kernel_rfl
set_option maxHeartbeats 1000000 in
set_option maxRecDepth 20000 in
theorem match_none {W : World} {base gw gc gm gd : Nat} {t : ByteArray} {long : Bool} {rows cols : Nat} {S : List Nat} {vj vs vb : Value} {jobs : List Job} {sl : List Int} {st : Nat} (h : WkI W base gw gc gm gd t long rows cols S vj vs vb jobs sl none st) (hbase : base ≤ W.heap.size) (a : Int) (hn2 : 2 ≤ sl.length) (hn64 : sl.length ≤ 64) :
    Calls Try.prog 69 #[.pointer (some ⟨gw, 0, none⟩), .int .i64 a] W fun e W' => e = .returned (.bool (!long)) ∧ (∃ vb', WkI W' base gw gc gm gd t long rows cols S vj vs vb' jobs sl (some (sl.set 1 a)) st) ∧ Below base W W' := by
  obtain rfl := h.hN rfl
  obtain ⟨A, c, rfl⟩ := Kd.R_slice h.hS
  have HH := Aside0.mk h
  have e2 : W.cell? ⟨gw, 2, none⟩ = some (.bool long) := (blk_cell h.hW 2).trans rfl
  have e5 : W.cell? ⟨gw, 5, none⟩ = some (.slice A sl.length c) := (blk_cell h.hW 5).trans rfl
  have e6 : W.cell? ⟨gw, 6, none⟩ = some (.slice none 0 0) := (blk_cell h.hW 6).trans rfl
  have HC := Aside0.mk (Kd.R_reads' h.hS).2.2
  have HBs := Aside0.mk hbase
  have hu := nil_eq W
  have hgw : gw < W.heap.size := blk_lt h.hW
  have HGW := Aside0.mk hgw
  have HW := Aside0.mk h.hW
  have HN2 := Aside0.mk hn2
  have HN64 := Aside0.mk hn64
  clear h hbase hn2 hn64 hgw
  obtain ⟨n, hn⟩ : ∃ n, sl.length = n := ⟨_, rfl⟩
  have HLN := Aside0.mk hn
  rw [hn] at e5 HC HN2 HN64 HW HH
  clear hn
  go_enter Try.func69, Try.ntmps69
  go_wp2_with (first | ((with_reducible refine gate_dst (N := 21) rfl ?_); refine Kd.R_lit (Kd.int .i64) _ 3 ?hg (N := 21) ?hd (xs := ([] : List Int)) (inner := []) (ok := fun _ => True) (okp := fun _ => True) ?hr ?hp (fun _ hk => hk) trivial (Below.refl _ _) (Nat.le_refl _) (by simp) ?_; (case hd => rfl); (case hg => rfl); (case hr => first | (go_simp; done) | (go_simp; rfl)); (case hp => exact Reps.none _ _); intro v21 w1 ho1 hb1 hg1_ hnew1_; clear hg1_ hnew1_; have HO1 := Aside0.mk ho1; have HB1 := Aside0.mk hb1; have HW1 := Aside0.mk ((hb1.block gw HGW.out).trans HW.out); have f5 : w1.cell? ⟨gw, 5, none⟩ = some (.slice A n c) := (blk_cell HW1.out 5).trans rfl; clear ho1 hb1; obtain ⟨A21, c21, e21⟩ := Kd.R_slice HO1.out; subst e21) | ((with_reducible refine gate_builtin (b := .append) (xs := #[.tmp 21, .tmp 25]) rfl ?_); at_builtin; refine Kd.R_append_rows (Kd.int .i64) (w0 := W) W.heap.size rfl (.tmp 21) (.tmp 25) 32 3 (.int .i64 0) 8 rfl Try.underlying32 info_int rfl (by decide) (by omega) (.slice A21 0 c21) ([] : List Int) sl _ _ _ (fun _ => True) (fun _ => False) rfl rfl ?aO ?aR (fun _ _ h => h) (fun _ h => h.elim) ?aF ?aB ?aS ?aL ?_; (case aR => exact Kd.C_below HC.out HB1.out); (case aB => exact HB1.out); (case aF => exact (fun _ _ => trivial)); (case aO => exact HO1.out); (case aS => exact HB1.out.size); (case aL => have := HN64.out; simp; omega); intro v26 w2 ho hb hg hat; obtain ⟨g26, c26, e26, gb26, gl26, cl26, hg26⟩ := Kd.R_form ho (by have := HN2.out; have := HLN.out; simp; omega); rw [List.nil_append, HLN.out] at e26; subst e26; have HR2 := Aside0.mk ho; have HB2 := Aside0.mk hb; have HGB := Aside0.mk gb26; have HW2 := ((hb.block gw HGW.out).trans HW.out); have f6 : w2.cell? ⟨gw, 6, none⟩ = some (.slice none 0 0) := (blk_cell HW2 6).trans rfl; have ff6 : w2.frozen? ⟨gw, 6, none⟩ = false := blk_frozen HW2 6; have f2 : w2.cell? ⟨gw, 2, none⟩ = some (.bool long) := (blk_cell HW2 2).trans rfl; have hne : g26 ≠ gw := (by have := HGW.out; omega); have hn1 : ((1 : Int) < (n : Int)) = True := eq_true (by have := HN2.out; omega); have f1 : w2.cell? ⟨g26, 1, none⟩ = some (.int .i64 (rdOf 0 sl 1)) := (Kd.R_celln 0 ho 1 (by omega) (by have := HN2.out; omega)).1; have ff1 : w2.frozen? ⟨g26, 1, none⟩ = false := (Kd.R_celln 0 ho 1 (by omega) (by have := HN2.out; omega)).2; clear ho hb hg hat gb26 gl26 hg26 HW2))
  go_ret
  have hl := HLN.out
  subst hl
  obtain ⟨k1, k2⟩ := wk_best HH.out HBs.out HB2.out HGB.out HR2.out a
  exact ⟨rfl, ⟨_, k1⟩, k2⟩
set_option maxHeartbeats 1000000 in
set_option maxRecDepth 20000 in
theorem match_more {W : World} {base gw gc gm gd : Nat} {t : ByteArray} {long : Bool} {rows cols : Nat} {S : List Nat} {vj vs vb : Value} {jobs : List Job} {sl b : List Int} {st : Nat} (h : WkI W base gw gc gm gd t long rows cols S vj vs vb jobs sl (some b) st) (hbase : base ≤ W.heap.size) (a : Int) (hab : b.getD 1 0 < a) (hn2 : 2 ≤ sl.length) (hn64 : sl.length ≤ 64) :
    Calls Try.prog 69 #[.pointer (some ⟨gw, 0, none⟩), .int .i64 a] W fun e W' => e = .returned (.bool (!long)) ∧ (∃ vb', WkI W' base gw gc gm gd t long rows cols S vj vs vb' jobs sl (some (sl.set 1 a)) st) ∧ Below base W W' := by
  obtain ⟨hRb, hbl⟩ := h.hB b rfl
  obtain ⟨gb, cb, eb, _, gbl, _⟩ := Kd.R_form hRb (by omega)
  subst eb
  obtain ⟨A, c, rfl⟩ := Kd.R_slice h.hS
  have HH := Aside0.mk h
  have e2 : W.cell? ⟨gw, 2, none⟩ = some (.bool long) := (blk_cell h.hW 2).trans rfl
  have e5 : W.cell? ⟨gw, 5, none⟩ = some (.slice A sl.length c) := (blk_cell h.hW 5).trans rfl
  have e6 : W.cell? ⟨gw, 6, none⟩ = some (.slice (some ⟨gb, 0, none⟩) b.length cb) := (blk_cell h.hW 6).trans rfl
  have hrb : rdOf 0 b 1 = b.getD 1 0 := rd_get b 1
  have hcb : W.cell? ⟨gb, 1, none⟩ = some (.int .i64 (rdOf 0 b 1)) := (Kd.R_celln 0 hRb 1 (by omega) (by omega)).1
  rw [hrb] at hcb
  generalize b.getD 1 0 = x at hcb hab
  have hgt : decide (x < a) = true := decide_eq_true hab
  rw [hbl] at e6
  clear hrb hab hRb gbl
  have HC := Aside0.mk (Kd.R_reads' h.hS).2.2
  have HBs := Aside0.mk hbase
  have hu := some_eq ⟨gb, 0, none⟩ sl.length cb W
  have hgw : gw < W.heap.size := blk_lt h.hW
  have HGW := Aside0.mk hgw
  have HW := Aside0.mk h.hW
  have HN2 := Aside0.mk hn2
  have HN64 := Aside0.mk hn64
  rw [hbl] at HW HH
  clear h hbase hn2 hn64 hgw hbl
  obtain ⟨n, hn⟩ : ∃ n, sl.length = n := ⟨_, rfl⟩
  have HLN := Aside0.mk hn
  rw [hn] at e5 e6 hu HC HN2 HN64 HW HH
  have hn1 : ((1 : Int) < (n : Int)) = True := eq_true (by have := HN2.out; omega)
  clear hn
  go_enter Try.func69, Try.ntmps69
  go_wp2_with (first | ((with_reducible refine gate_dst (N := 21) rfl ?_); refine Kd.R_lit (Kd.int .i64) _ 3 ?hg (N := 21) ?hd (xs := ([] : List Int)) (inner := []) (ok := fun _ => True) (okp := fun _ => True) ?hr ?hp (fun _ hk => hk) trivial (Below.refl _ _) (Nat.le_refl _) (by simp) ?_; (case hd => rfl); (case hg => rfl); (case hr => first | (go_simp; done) | (go_simp; rfl)); (case hp => exact Reps.none _ _); intro v21 w1 ho1 hb1 hg1_ hnew1_; clear hg1_ hnew1_; have HO1 := Aside0.mk ho1; have HB1 := Aside0.mk hb1; have HW1 := Aside0.mk ((hb1.block gw HGW.out).trans HW.out); have f5 : w1.cell? ⟨gw, 5, none⟩ = some (.slice A n c) := (blk_cell HW1.out 5).trans rfl; clear ho1 hb1; obtain ⟨A21, c21, e21⟩ := Kd.R_slice HO1.out; subst e21) | ((with_reducible refine gate_builtin (b := .append) (xs := #[.tmp 21, .tmp 25]) rfl ?_); at_builtin; refine Kd.R_append_rows (Kd.int .i64) (w0 := W) W.heap.size rfl (.tmp 21) (.tmp 25) 32 3 (.int .i64 0) 8 rfl Try.underlying32 info_int rfl (by decide) (by omega) (.slice A21 0 c21) ([] : List Int) sl _ _ _ (fun _ => True) (fun _ => False) rfl rfl ?aO ?aR (fun _ _ h => h) (fun _ h => h.elim) ?aF ?aB ?aS ?aL ?_; (case aR => exact Kd.C_below HC.out HB1.out); (case aB => exact HB1.out); (case aF => exact (fun _ _ => trivial)); (case aO => exact HO1.out); (case aS => exact HB1.out.size); (case aL => have := HN64.out; simp; omega); intro v26 w2 ho hb hg hat; obtain ⟨g26, c26, e26, gb26, gl26, cl26, hg26⟩ := Kd.R_form ho (by have := HN2.out; have := HLN.out; simp; omega); rw [List.nil_append, HLN.out] at e26; subst e26; have HR2 := Aside0.mk ho; have HB2 := Aside0.mk hb; have HGB := Aside0.mk gb26; have HW2 := ((hb.block gw HGW.out).trans HW.out); have f6 : w2.cell? ⟨gw, 6, none⟩ = some (.slice (some ⟨gb, 0, none⟩) n cb) := (blk_cell HW2 6).trans rfl; have ff6 : w2.frozen? ⟨gw, 6, none⟩ = false := blk_frozen HW2 6; have f2 : w2.cell? ⟨gw, 2, none⟩ = some (.bool long) := (blk_cell HW2 2).trans rfl; have hne : g26 ≠ gw := (by have := HGW.out; omega); have f1 : w2.cell? ⟨g26, 1, none⟩ = some (.int .i64 (rdOf 0 sl 1)) := (Kd.R_celln 0 ho 1 (by omega) (by have := HN2.out; omega)).1; have ff1 : w2.frozen? ⟨g26, 1, none⟩ = false := (Kd.R_celln 0 ho 1 (by omega) (by have := HN2.out; omega)).2; clear ho hb hg hat gb26 gl26 hg26 HW2))
  go_ret
  have hl := HLN.out
  subst hl
  obtain ⟨k1, k2⟩ := wk_best HH.out HBs.out HB2.out HGB.out HR2.out a
  exact ⟨rfl, ⟨_, k1⟩, k2⟩
set_option maxHeartbeats 1000000 in
set_option maxRecDepth 20000 in
theorem match_less {W : World} {base gw gc gm gd : Nat} {t : ByteArray} {long : Bool} {rows cols : Nat} {S : List Nat} {vj vs vb : Value} {jobs : List Job} {sl b : List Int} {st : Nat} (h : WkI W base gw gc gm gd t long rows cols S vj vs vb jobs sl (some b) st) (a : Int) (hab : ¬ b.getD 1 0 < a) (hn2 : 2 ≤ sl.length) :
    Calls Try.prog 69 #[.pointer (some ⟨gw, 0, none⟩), .int .i64 a] W fun e W' => e = .returned (.bool (!long)) ∧ W = W' := by
  obtain ⟨hRb, hbl⟩ := h.hB b rfl
  obtain ⟨gb, cb, eb, _, gbl, _⟩ := Kd.R_form hRb (by omega)
  subst eb
  have e2 : W.cell? ⟨gw, 2, none⟩ = some (.bool long) := (blk_cell h.hW 2).trans rfl
  have e6 : W.cell? ⟨gw, 6, none⟩ = some (.slice (some ⟨gb, 0, none⟩) b.length cb) := (blk_cell h.hW 6).trans rfl
  have hcb : W.cell? ⟨gb, 1, none⟩ = some (.int .i64 (rdOf 0 b 1)) := (Kd.R_celln 0 hRb 1 (by omega) (by omega)).1
  rw [show rdOf 0 b 1 = b.getD 1 0 from rd_get b 1] at hcb
  have hgt : decide (b.getD 1 0 < a) = false := decide_eq_false hab
  generalize b.getD 1 0 = x at hcb hgt
  have hu := some_eq ⟨gb, 0, none⟩ b.length cb W
  have hn1 : ((1 : Int) < (b.length : Int)) = True := eq_true (by omega)
  clear h hab hRb gbl hbl hn2
  generalize b.length = n at e6 hu hn1
  go_enter Try.func69, Try.ntmps69
  go_wp2
  go_ret
  exact ⟨rfl, rfl⟩
/-- A way that ends. -/
theorem match_at {W : World} {base gw gc gm gd : Nat} {t : ByteArray} {long : Bool} {rows cols : Nat} {S : List Nat} {vj vs vb : Value} {jobs : List Job} {sl : List Int} {best : Option (List Int)} {st : Nat} (h : WkI W base gw gc gm gd t long rows cols S vj vs vb jobs sl best st) (hbase : base ≤ W.heap.size) (a : Nat) (hn2 : 2 ≤ sl.length) (hn64 : sl.length ≤ 64) :
    Calls Try.prog 69 #[.pointer (some ⟨gw, 0, none⟩), .int .i64 a] W fun e W' => e = .returned (.bool (!long)) ∧ (∃ vb', WkI W' base gw gc gm gd t long rows cols S vj vs vb' jobs sl (better best a sl) st) ∧ Below base W W' := by
  cases best with
  | none => exact match_none h hbase a hn2 hn64
  | some b =>
    unfold better
    dsimp only
    by_cases g : b.getD 1 0 < (a : Int)
    · rw [if_pos g]
      exact match_more h hbase a g hn2 hn64
    · rw [if_neg g]
      exact (match_less h a g hn2).mono fun e W' ⟨he, hw⟩ => by
        subst hw
        exact ⟨he, ⟨vb, h⟩, Below.refl _ _⟩
end Go.Proofs.YtjajehjhonabdaaX
