import Derived.Test.YtjajehjhonabdaaXVerifyLinks
import Derived.Test.YtjajehjhonabdaaXSort
import Derived.ScopeJumps
import Derived.WalkMore
import Derived.StillTailTactics
import Derived.Deep.QuietTactic
import Derived.BigQuiet
import Derived.Deep.RegionLaw
namespace Go.Proofs.YtjajehjhonabdaaX
open Go.RowKit Go.Proofs.YtjajehjhonabdaaW.PrintWords Go.Proofs.YtjajehjhonabdaaW.PrintLast Go.Proofs.YtjajehjhonabdaaW.PrintMore
set_option linter.unusedVariables false
set_option linter.unusedSimpArgs false
/-- What an instruction leads to without a byte. -/
def freeN (x : I5) : List Int := if (leadsV x).2 then [] else (leadsV x).1
def incAt (ins : List Int) (t : Int) : List Int := ins.set t.toNat (ins.getD t.toNat 0 + 1)
def decAt (ins : List Int) (t : Int) : List Int := ins.set t.toNat (ins.getD t.toNat 0 - 1)
/-- How often each is led to without a byte. -/
def freeL (l : List I5) : List Int := (l.flatMap freeN).foldl incAt (List.replicate l.length 0)
def openI (ins : List Int) (done : List Bool) (i : Nat) : Bool := decide (ins.getD i 0 ≤ 0) && !done.getD i false
def ordF (l : List I5) : Nat → List Int → List Bool → List Int → Option (List Int)
  | 0, _, _, out => some out
  | f + 1, ins, done, out => match (List.range l.length).find? (openI ins done) with
    | none => none
    | some i => ordF l f ((freeN (l.getD i (0, 0, 0, 0, 0))).foldl decAt ins) (done.set i true) (out ++ [(i : Int)])
def ordL (l : List I5) : Option (List Int) := ordF l l.length (freeL l) (List.replicate l.length false) []
theorem find_here {n i : Nat} {p : Nat → Bool} (hi : i < n) (hp : p i = true) (hno : ∀ j, j < i → p j = false) : (List.range n).find? p = some i := by
  rw [List.find?_eq_some_iff_getElem]
  refine ⟨hp, i, by simpa using hi, by simp, fun j hj => by simp [hno j hj]⟩
theorem find_no {n : Nat} {p : Nat → Bool} (hno : ∀ j, j < n → p j = false) : (List.range n).find? p = none := by
  rw [List.find?_eq_none]
  intro x hx
  simp [hno x (List.mem_range.1 hx)]
theorem decs_len (ts : List Int) : ∀ ins : List Int, (ts.foldl decAt ins).length = ins.length := by
  induction ts with
  | nil => intro ins; rfl
  | cons t ts ih => intro ins; rw [List.foldl_cons, ih]; unfold decAt; rw [List.length_set]
theorem int_cell {e base g n cap : Nat} {ok : Nat → Prop} {xs : List Int} {W : World} (h : Kd.R (Kd.int .i64) e W base ok (.slice (some ⟨g, 0, none⟩) n cap) xs) {i : Nat} (hi : i < n) : W.cell? ⟨g, i, none⟩ = some (.int .i64 (xs.getD i 0)) ∧ W.frozen? ⟨g, i, none⟩ = false := by
  obtain ⟨rfl, _⟩ := Kd.R_reads' h
  have := Kd.R_cell (0 : Int) h (i : Int) (by omega) (by omega)
  rw [Int.toNat_natCast] at this
  exact this
theorem bool_cell {e base g n cap : Nat} {ok : Nat → Prop} {xs : List Bool} {W : World} (h : Kd.R Kd.bool e W base ok (.slice (some ⟨g, 0, none⟩) n cap) xs) {i : Nat} (hi : i < n) : W.cell? ⟨g, i, none⟩ = some (.bool (xs.getD i false)) ∧ W.frozen? ⟨g, i, none⟩ = false := by
  obtain ⟨rfl, _⟩ := Kd.R_reads' h
  have := Kd.R_cell false h (i : Int) (by omega) (by omega)
  rw [Int.toNat_natCast] at this
  exact this
/-- What is at the head of each round. -/
structure OrdSt (w wr : World) (A : Option Addr) (n c : Nat) (start slots : Int) (l : List I5) (gi ci gd cd : Nat) (Ao : Option Addr) (no co : Nat) (ins : List Int) (done : List Bool) (out : List Int) : Prop where
  box : wr.heap[w.heap.size]? = some (.cells #[.slice A n c, .int .i64 start, .int .i64 slots] 24 (0, 0))
  below : Below w.heap.size w wr
  prog : Kd.C kIn wr A n l
  ri : Kd.R (Kd.int .i64) 3 wr w.heap.size (fun k => k = gi) (.slice (some ⟨gi, 0, none⟩) n ci) ins
  rd : Kd.R Kd.bool 4 wr w.heap.size (fun k => k = gd) (.slice (some ⟨gd, 0, none⟩) n cd) done
  ro : Kd.R (Kd.int .i64) 3 wr w.heap.size (fun k => gd < k) (.slice Ao no co) out
  lt : w.heap.size < gi ∧ gi < gd ∧ gd < wr.heap.size
section
variable {w wr : World} {A : Option Addr} {n c : Nat} {start slots : Int} {l : List I5} {gi ci gd cd : Nat} {Ao : Option Addr} {no co : Nat} {ins : List Int} {done : List Bool} {out : List Int}
theorem OrdSt.mark (h : OrdSt w wr A n c start slots l gi ci gd cd Ao no co ins done out) (hC : Kd.C kIn w A n l) (i : Nat) : OrdSt w (wr.setCell ⟨gd, i, none⟩ (.bool true)) A n c start slots l gi ci gd cd Ao no co ins (done.set i true) out := by
  have hl := h.lt
  have hb : Below w.heap.size w (wr.setCell ⟨gd, i, none⟩ (.bool true)) := h.below.setCell (p := ⟨gd, i, none⟩) (by show w.heap.size ≤ gd; omega) _
  refine ⟨(Below.heap_setCell wr ⟨gd, i, none⟩ _ _ (by show w.heap.size ≠ gd; omega)).trans h.box, hb, Kd.C_below hC hb, Kd.R_far h.ri (fun k hk => by show k ≠ gd; omega) _, ?_, Kd.R_far h.ro (fun k hk => by show k ≠ gd; omega) _, by simpa using hl⟩
  have := Kd.R_putn h.rd (i : Int) true
  rw [Int.toNat_natCast] at this
  exact this
theorem OrdSt.dec (h : OrdSt w wr A n c start slots l gi ci gd cd Ao no co ins done out) (hC : Kd.C kIn w A n l) (i : Nat) (v : Int) : OrdSt w (wr.setCell ⟨gi, i, none⟩ (.int .i64 v)) A n c start slots l gi ci gd cd Ao no co (ins.set i v) done out := by
  have hl := h.lt
  have hb : Below w.heap.size w (wr.setCell ⟨gi, i, none⟩ (.int .i64 v)) := h.below.setCell (p := ⟨gi, i, none⟩) (by show w.heap.size ≤ gi; omega) _
  refine ⟨(Below.heap_setCell wr ⟨gi, i, none⟩ _ _ (by show w.heap.size ≠ gi; omega)).trans h.box, hb, Kd.C_below hC hb, ?_, Kd.R_far h.rd (fun k hk => by show k ≠ gi; omega) _, Kd.R_far h.ro (fun k hk => by show k ≠ gi; omega) _, by simpa using hl⟩
  have := Kd.R_putn h.ri (i : Int) v
  rw [Int.toNat_natCast] at this
  exact this
theorem OrdSt.step {w2 : World} (h : OrdSt w wr A n c start slots l gi ci gd cd Ao no co ins done out) (hb : Below wr.heap.size wr w2) : OrdSt w w2 A n c start slots l gi ci gd cd Ao no co ins done out :=
  ⟨(hb.block _ (blk_lt h.box)).trans h.box, h.below.trans (hb.mono h.below.size), Kd.C_below h.prog hb, Kd.R_below h.ri hb, Kd.R_below h.rd hb, Kd.R_below h.ro hb, by have := h.lt; have := hb.size; omega⟩
theorem OrdSt.push {w2 : World} {Ao2 : Option Addr} {no2 co2 : Nat} {out2 : List Int} (h : OrdSt w wr A n c start slots l gi ci gd cd Ao no co ins done out) (hC : Kd.C kIn w A n l) (hr : Kd.R (Kd.int .i64) 3 w2 w.heap.size (fun k => gd < k) (.slice Ao2 no2 co2) out2) (hb : Below w.heap.size w w2) (hg : wr.grownBy w2 (Value.slice Ao no co).ownBlock) : OrdSt w w2 A n c start slots l gi ci gd cd Ao2 no2 co2 ins done out2 := by
  have hl := h.lt
  have hne : ∀ k, k ≤ gd → some k ≠ (Value.slice Ao no co).ownBlock := fun k hk e => by have := h.ro.1 k e.symm; omega
  exact ⟨(hg.block _ (blk_lt h.box) (hne _ (by omega))).trans h.box, hb, Kd.C_below hC hb, Kd.R_grown h.ri hg (fun k hk => hne k (by omega)), Kd.R_grown h.rd hg (fun k hk => hne k (by omega)), hr, by have := hg.size; omega⟩
end
def decBy (by_ : Bool) (ins : List Int) (t : Int) : List Int := if by_ then ins else decAt ins t
theorem decBy_all (x : I5) (ins : List Int) : (leadsV x).1.foldl (decBy (leadsV x).2) ins = (freeN x).foldl decAt ins := by
  unfold freeN
  cases h : (leadsV x).2
  · rw [if_neg (by decide)]; rfl
  · rw [if_pos rfl]
    have : ∀ ts : List Int, ∀ ins : List Int, ts.foldl (decBy true) ins = ins := by
      intro ts
      induction ts with
      | nil => intro ins; rfl
      | cons t ts ih => intro ins; rw [List.foldl_cons, ih]; rfl
    rw [this]
    rfl
theorem decBy_len (b : Bool) (ins : List Int) (t : Int) : (decBy b ins t).length = ins.length := by
  unfold decBy decAt
  split <;> simp
theorem decBy_in {b : Bool} {ins : List Int} {t lo hi : Int} (h : ∀ v ∈ ins, lo ≤ v ∧ v ≤ hi) (h0 : lo ≤ 0 ∧ 0 ≤ hi) : ∀ v ∈ decBy b ins t, lo - 1 ≤ v ∧ v ≤ hi := by
  intro v hv
  unfold decBy at hv
  split at hv
  · have := h v hv; omega
  · unfold decAt at hv
    rcases List.mem_or_eq_of_mem_set hv with hv | rfl
    · have := h v hv; omega
    · by_cases ht : t.toNat < ins.length
      · rw [List.getD_eq_getElem?_getD, List.getElem?_eq_getElem ht]
        have := h _ (List.getElem_mem ht)
        simp only [Option.getD_some]
        omega
      · rw [List.getD_eq_getElem?_getD, List.getElem?_eq_none (by omega)]
        simp only [Option.getD_none]
        omega
def FreeAt (l : List I5) : Prop := ∀ (A : Option Addr) (c : Nat) (start slots : Int) (w : World), Kd.C kIn w A l.length l → l.length ≤ c → Calls Try.prog 66 #[.agg #[.slice A l.length c, .int .i64 start, .int .i64 slots]] w fun e w' => ∃ v, e = .returned v ∧ Kd.R (Kd.int .i64) 3 w' w.heap.size (fun _ => True) v (freeL l) ∧ Below w.heap.size w w'
def OrdPost (w : World) (o : Option (List Int)) (e : Ending) (w' : World) : Prop := ∃ v, e = .returned (.tuple #[v, .bool o.isSome]) ∧ Kd.R (Kd.int .i64) 3 w' w.heap.size (fun _ => True) v (o.getD []) ∧ Below w.heap.size w w'
theorem info_int : (Try.prog.info? 3).map (fun i => (i.zero, i.size, i.bytes)) = some (some (.int .i64 0), 1, 8) := by kernel_rfl
theorem info_bool : (Try.prog.info? 4).map (fun i => (i.zero, i.size, i.bytes)) = some (some (.bool false), 1, 1) := by kernel_rfl
set_option maxHeartbeats 8000000 in
set_option maxRecDepth 100000 in
theorem ordered_any (HLD : LeadsAt) (A : Option Addr) (c : Nat) (l : List I5) (start slots : Int) (w : World) (HFR : FreeAt l) (hC : Kd.C kIn w A l.length l) (hc : l.length ≤ c) (h1 : 1 ≤ l.length) (hn : l.length ≤ 4000) (hfl : (freeL l).length = l.length) (hfb : ∀ v ∈ freeL l, 0 ≤ v ∧ v ≤ 8000) (hT : ∀ x ∈ l, ∀ t ∈ (leadsV x).1, 0 ≤ t ∧ t < l.length) :
    Calls Try.prog 39 #[.agg #[.slice A l.length c, .int .i64 start, .int .i64 slots]] w (OrdPost w (ordL l)) := by
  obtain ⟨bA, oA, rfl, hbA, _⟩ := inst_at hC (i := 0) (by omega)
  have HF0 := HFR (some ⟨bA, oA, none⟩) c start slots
  obtain ⟨n, hln⟩ : ∃ n, n = l.length := ⟨_, rfl⟩
  have HL := Aside0.mk hln
  rw [← hln] at hC hc h1 hn hfl hT HF0
  obtain ⟨T, hTT⟩ : ∃ T, T = ordL l := ⟨_, rfl⟩
  rw [← hTT]
  unfold ordL at hTT
  rw [← hln] at hTT ⊢
  obtain ⟨w0, hw0⟩ : ∃ w0, w0 = w.alloc (.cells #[.slice (some ⟨bA, oA, none⟩) n c, .int .i64 start, .int .i64 slots] 24) := ⟨_, rfl⟩
  have hb0 : Below w.heap.size w w0 := by rw [hw0]; exact (Below.refl _ w).alloc (Nat.le_refl _) _
  have hl0 : w0.heap[w.heap.size]? = some (.cells #[.slice (some ⟨bA, oA, none⟩) n c, .int .i64 start, .int .i64 slots] 24 (0, 0)) := by rw [hw0]; exact heap_alloc_last w _
  have HB := Aside0.mk hb0
  have HP := Aside0.mk hl0
  have HC := Aside0.mk (Kd.C_below hC hb0)
  have HCW := Aside0.mk hC
  have HF := Aside0.mk (HF0 w0 HC.out hc)
  have HT := Aside0.mk hT
  generalize freeL l = ins0 at hfl hfb hTT HF
  have HTT := Aside0.mk hTT
  have HFL := Aside0.mk hfl
  have HFB := Aside0.mk hfb
  have HW0 := Aside0.mk hw0
  have p0 : w0.cell? ⟨w.heap.size, 0, none⟩ = some (.slice (some ⟨bA, oA, none⟩) n c) := (blk_cell HP.out 0).trans rfl
  have p1 : w0.cell? ⟨w.heap.size, 1, none⟩ = some (.int .i64 start) := (blk_cell HP.out 1).trans rfl
  have p2 : w0.cell? ⟨w.heap.size, 2, none⟩ = some (.int .i64 slots) := (blk_cell HP.out 2).trans rfl
  clear hb0 hl0 hC hT hTT hfl hfb HFR hln hw0 HF0
  go_enter Try.func39, Try.ntmps39
  go_wp2_with fail
  rw [← HW0.out]
  refine wp_scope_jumps 0 (fun _ _ => False) (fun _ _ => 0) rfl ?_ (fun _ _ h => h.elim)
  go_wp2_with fail
  refine HF.out.mono ?_
  rintro e w1 ⟨vi, rfl, hR, hb1⟩
  obtain ⟨gi, ci, rfl, hgi, hgi2, _⟩ := Kd.R_form hR (by rw [HFL.out]; omega)
  rw [HFL.out] at hR ⊢
  clear p0 p1 p2
  have HP1 := Aside0.mk ((hb1.block _ (blk_lt HP.out)).trans HP.out)
  have HC1 := Aside0.mk (Kd.C_below HC.out hb1)
  have HB1 := Aside0.mk (HB.out.trans (hb1.mono HB.out.size))
  have HI1 := Aside0.mk (Kd.R_lower (Kd.R_mono (ok' := fun k => k = gi) (show Kd.R (Kd.int .i64) 3 w1 w0.heap.size (fun k => k = gi) (.slice (some ⟨gi, 0, none⟩) n ci) ins0 from ⟨fun k hk => by simp [Value.ownBlock] at hk; exact hk.symm, by obtain ⟨_, inner, ho, hr⟩ := hR; exact ⟨inner, ho, hr⟩⟩) (fun _ h => h)) HB.out.size)
  have p10 : w1.cell? ⟨w.heap.size, 0, none⟩ = some (.slice (some ⟨bA, oA, none⟩) n c) := (blk_cell HP1.out 0).trans rfl
  have hgw : w.heap.size < gi := Nat.lt_of_lt_of_le (blk_lt HP.out) hgi
  clear hR hb1 HF HB HP HC hgi
  go_wp2_with ((with_reducible refine gate_dst (N := 18) rfl ?_); refine Kd.R_make Kd.bool (w0 := w) w.heap.size 4 rfl (N := 18) rfl 107 _ _ rfl (n : Int) rfl rfl Try.underlying107 (.bool false) 1 info_bool rfl (by decide) (by omega) false (ok := fun k => w1.heap.size ≤ k) (okp := fun k => w1.heap.size ≤ k) rfl (fun _ hk => hk) (Nat.le_refl _) (by omega) (by omega) HB1.out HB1.out.size ?_; intro v2 w2 hD hb2 hg2 hn2)
  obtain ⟨gd, cd, rfl, hgd, hgd2, _⟩ := Kd.R_form hD (by simp; omega)
  rw [show (List.replicate (n : Int).toNat false).length = n by simp] at hD ⊢
  rw [Int.toNat_natCast] at hD
  have hbb : Below w1.heap.size w1 w2 := (Below.refl _ w1).grown hg2 (Nat.le_refl _) (fun k h => by cases h)
  have HO := Aside0.mk (OrdSt.mk (start := start) (slots := slots) (Ao := none) (no := 0) (co := 0) (out := []) (ci := ci) (cd := cd) ((hbb.block _ (blk_lt HP1.out)).trans HP1.out) hb2 (Kd.C_below HC1.out hbb) (Kd.R_below HI1.out hbb) (show Kd.R Kd.bool 4 w2 w.heap.size (fun k => k = gd) (.slice (some ⟨gd, 0, none⟩) n cd) (List.replicate n false) from ⟨fun k hk => by simp [Value.ownBlock] at hk; exact hk.symm, by obtain ⟨_, inner, ho, hr⟩ := hD; exact ⟨inner, ho, hr⟩⟩) (Kd.R_nil _ _ _ _ _) ⟨hgw, by have := Kd.R_lt HI1.out gi rfl; have := hD.1 gd rfl; omega, hgd2⟩)
  clear hD hb2 hg2 hn2 hbb p10 HI1 HP1 HC1 HB1 hgi2 hgd hgd2 hgw
  go_step3
  go_wp2_with fail
  go_loopg [5] n (fun g s5 wr => ∃ (f : Nat) (ins : List Int) (done : List Bool) (out : List Int) (Ao : Option Addr) (no co : Nat), no + f = n ∧ f ≤ g ∧ s5 = .slice Ao no co ∧ Aside0 (no = out.length ∧ ins.length = n ∧ done.length = n) ∧ Aside0 (T = ordF l f ins done out) ∧ Aside0 (∀ v ∈ ins, -(2 * (no : Int)) ≤ v ∧ v ≤ 8000) ∧ Aside0 (OrdSt w wr (some ⟨bA, oA, none⟩) n c start slots l gi ci gd cd Ao no co ins done out))
  case atStart => exact ⟨n, ins0, _, [], none, 0, 0, by omega, by omega, rfl, ⟨rfl, HFL.out, by simp⟩, HTT, ⟨fun v hv => by have := HFB.out v hv; omega⟩, HO⟩
  case round =>
    clear HO HTT HFL HFB ins0
    obtain ⟨f, ins, done, out, Ao, no, co, hnf, hfg, rfl, HLN, HTT, HBD, HO⟩ := hrel
    have p10 : wr.cell? ⟨w.heap.size, 0, none⟩ = some (.slice (some ⟨bA, oA, none⟩) n c) := (blk_cell HO.out.box 0).trans rfl
    cases f with
    | zero =>
      obtain rfl : no = n := by omega
      have hT : T = some out := HTT.out
      subst hT
      go_wp2_with fail
      go_ret2
      exact ⟨_, rfl, Kd.R_mono HO.out.ro (fun _ _ => trivial), HO.out.below⟩
    | succ f =>
      have hlt : no < n := by omega
      go_wp2_with fail
      have HFS := Aside0.mk (show f + 1 ≤ gk from hfg)
      have HNF := Aside0.mk hnf
      clear p10 hfg hnf
      obtain ⟨wo, rfl⟩ : ∃ wo : World, wo = wr := ⟨_, rfl⟩
      go_loopg [5, 27] n (fun gq s5 s27 wr2 => ∃ i : Nat, i ≤ n ∧ n - i ≤ gq ∧ s5 = .slice Ao no co ∧ s27 = .int .i64 i ∧ Aside0 (∀ j, j < i → openI ins done j = false) ∧ wo = wr2)
      case atStart => exact ⟨0, by omega, by omega, rfl, rfl, ⟨fun j hj => by omega⟩, rfl⟩
      case round =>
        obtain ⟨i, hi, hgq, rfl, rfl, HNO, rfl⟩ := hrel
        by_cases hin : i < n
        · have hci := int_cell HO.out.ri hin
          have hcd := bool_cell HO.out.rd hin
          have hc1 := hci.1
          have hf1 := hci.2
          have hc2 := hcd.1
          have hf2 := hcd.2
          have HOP := Aside0.mk (show openI ins done i = (decide (ins.getD i 0 ≤ 0) && !done.getD i false) from rfl)
          clear hci hcd
          generalize ins.getD i 0 = vi at hc1 HOP
          generalize done.getD i false = di at hc2 HOP
          by_cases hv : 0 < vi
          · have hop : openI ins done i = false := by rw [HOP.out, decide_eq_false (by omega), Bool.false_and]
            go_wp2_with fail
            go_roundg (n - (i + 1))
            case measure => omega
            case rel => exact ⟨i + 1, by omega, by omega, rfl, by rw [show (i : Int) + 1 = ((i + 1 : Nat) : Int) by omega], ⟨fun j hj => by
              by_cases e : j = i
              · rw [e]; exact hop
              · exact HNO.out j (by omega)⟩, rfl⟩
          · have hv' : decide (0 < vi) = false := decide_eq_false hv
            cases di with
            | true =>
              have hop : openI ins done i = false := by rw [HOP.out]; simp
              go_wp2_with fail
              go_roundg (n - (i + 1))
              case measure => omega
              case rel => exact ⟨i + 1, by omega, by omega, rfl, by rw [show (i : Int) + 1 = ((i + 1 : Nat) : Int) by omega], ⟨fun j hj => by
                by_cases e : j = i
                · rw [e]; exact hop
                · exact HNO.out j (by omega)⟩, rfl⟩
            | false =>
              have hop : openI ins done i = true := by rw [HOP.out, decide_eq_true (by omega)]; rfl
              have HFD := Aside0.mk (find_here (n := n) hin hop HNO.out)
              clear HNO hop HOP
              have HM := Aside0.mk (HO.out.mark HCW.out i)
              have HAL := Aside0.mk HLN.out.1
              go_wp2_with (at_builtin; refine Kd.R_append (Kd.int .i64) (w0 := w) (W := wo.setCell ⟨gd, i, none⟩ (.bool true)) w.heap.size rfl (.tmp 43) (.tmp 45) 32 3 (.int .i64 0) 8 rfl Try.underlying32 info_int rfl (by decide) (by omega) (.slice Ao no co) out (i : Int) [.int .i64 i] (fun k => gd < k) (fun _ => False) ?aV ?aX rfl (fun _ h => h.elim) (fun k hk => Nat.lt_of_lt_of_le HM.out.lt.2.2 hk) HM.out.ro HM.out.below HM.out.below.size (by have := HAL.out; omega) ?_; (case aV => (first | rfl | (simp [Act.eval]; done) | (simp [Act.eval] <;> rfl))); (case aX => (first | rfl | (simp [Act.eval]; done) | (simp [Act.eval] <;> rfl))); intro v6 w6 ho6 hb6 hg6 hat6; obtain ⟨A6, c6, e6⟩ := Kd.R_slice ho6; rw [List.length_append, List.length_singleton, ← HAL.out] at e6; subst e6; have HO6 := Aside0.mk (HM.out.push HCW.out ho6 hb6 hg6); have p16 : w6.cell? ⟨w.heap.size, 0, none⟩ = some (.slice (some ⟨bA, oA, none⟩) n c) := (blk_cell HO6.out.box 0).trans rfl; obtain ⟨b', o', e', _, x0, x1, x2, x3, x4⟩ := inst_at HO6.out.prog (i := i) (by have := HL.out; omega); injection e' with e'; injection e' with e1 e2; subst e1 e2; have HX := Aside0.mk (show l[i]'(by have := HL.out; omega) ∈ l from List.getElem_mem _); clear ho6 hb6 hg6 hat6)
              have hil : i < l.length := by have := HL.out; omega
              obtain ⟨x, hx⟩ : ∃ x, x = l[i] := ⟨_, rfl⟩
              have HXE := Aside0.mk hx
              rw [← hx] at x0 x1 x2 x3 x4 HX ⊢
              have HTX := Aside0.mk (HT.out x HX.out)
              have HPL := Aside0.mk (leads_len x)
              have HDB := Aside0.mk (decBy_all x ins)
              clear hx x0 x1 x2 x3 x4 p16 hc1 hf1 hc2 hf2
              refine (HLD x w6).mono ?_
              rintro e w7 ⟨v7, rfl, hR7, hb7⟩
              obtain ⟨A7, c7, rfl⟩ := Kd.R_slice hR7
              have HO7 := Aside0.mk (HO6.out.step hb7)
              have HR7 := Aside0.mk (Kd.R_mono (ok' := fun k => w6.heap.size ≤ k) (show Kd.R (Kd.int .i64) 3 w7 w6.heap.size (fun k => w6.heap.size ≤ k) (.slice A7 _ c7) (leadsV x).1 from Kd.R_mono (Kd.R_bound hR7) (fun k hk => hk.2.1)) (fun _ h => h))
              have HG6 := Aside0.mk HO6.out.lt
              clear hR7 hb7 HO6 HO HM
              generalize (leadsV x).1 = ts at HTX HPL HDB HR7 ⊢
              generalize (leadsV x).2 = byb at HDB ⊢
              obtain ⟨m, hm⟩ : ∃ m, m = ts.length := ⟨_, rfl⟩
              have HMT := Aside0.mk hm
              rw [← hm] at HR7 HPL ⊢
              clear hm
              go_wp2_with fail
              have HI0 := Aside0.mk (show ins.length = n from HLN.out.2.1)
              have HBD0 := Aside0.mk (show ∀ v ∈ ins, -(2 * (no : Int)) - ((0 : Nat) : Int) ≤ v ∧ v ≤ 8000 from fun v hv => by have := HBD.out v hv; omega)
              go_loopg [58] m (fun gq s58 wr3 => ∃ (j : Nat) (ins3 : List Int), j ≤ m ∧ m - j ≤ gq ∧ s58 = .int .i64 j ∧ Aside0 (ins3 = (ts.take j).foldl (decBy byb) ins) ∧ Aside0 (ins3.length = n) ∧ Aside0 (∀ v ∈ ins3, -(2 * (no : Int)) - (j : Int) ≤ v ∧ v ≤ 8000) ∧ Aside0 (OrdSt w wr3 (some ⟨bA, oA, none⟩) n c start slots l gi ci gd cd A6 (no + 1) c6 ins3 (done.set i true) (out ++ [(i : Int)])) ∧ Aside0 (Kd.R (Kd.int .i64) 3 wr3 w6.heap.size (fun k => w6.heap.size ≤ k) (.slice A7 m c7) ts))
              case atStart => exact ⟨0, ins, by omega, by omega, rfl, ⟨rfl⟩, HI0, HBD0, HO7, HR7⟩
              case round =>
                clear HO7 HR7 HBD0
                obtain ⟨j, ins3, hj, hgj, rfl, HE3, HL3, HB3, HO3, HR3⟩ := hrel
                by_cases hjm : j < m
                · have hm2 := HPL.out
                  obtain ⟨g7, c7', e7, hg7, _⟩ := Kd.R_form HR3.out (by have := HMT.out; omega)
                  injection e7 with e7 _ _
                  subst e7
                  have hjt : j < ts.length := by have := HMT.out; omega
                  have htj := HTX.out _ (List.getElem_mem hjt)
                  obtain ⟨tn, htn⟩ : ∃ tn : Nat, ts[j] = (tn : Int) := ⟨ts[j].toNat, by omega⟩
                  have htc := (int_cell HR3.out hjm).1
                  rw [List.getD_eq_getElem?_getD, List.getElem?_eq_getElem hjt, Option.getD_some, htn] at htc
                  have htl : tn < n := by omega
                  have hci3 := int_cell HO3.out.ri htl
                  have hc3 := hci3.1
                  have hf3 := hci3.2
                  have hval : -(2 * (no : Int)) - (j : Int) ≤ ins3.getD tn 0 ∧ ins3.getD tn 0 ≤ 8000 := by
                    rw [List.getD_eq_getElem?_getD, List.getElem?_eq_getElem (by rw [HL3.out]; exact htl), Option.getD_some]
                    exact HB3.out _ (List.getElem_mem _)
                  have HN3 := Aside0.mk (show (ts.take (j + 1)).foldl (decBy byb) ins = decBy byb ins3 (tn : Int) by
                    rw [List.take_succ_eq_append_getElem hjt, List.foldl_append, ← HE3.out, htn]; rfl)
                  have HLX := Aside0.mk (decBy_len byb ins3 (tn : Int))
                  have HBX := Aside0.mk (decBy_in (b := byb) (t := (tn : Int)) HB3.out ⟨by omega, by omega⟩)
                  have HDA := Aside0.mk (show decBy false ins3 (tn : Int) = ins3.set tn (ins3.getD tn 0 - 1) by unfold decBy decAt; rw [if_neg (by decide), Int.toNat_natCast])
                  have HOX := Aside0.mk (HO3.out.dec HCW.out tn (ins3.getD tn 0 - 1))
                  have HRX := Aside0.mk (Kd.R_far HR3.out (p := ⟨gi, tn, none⟩) (fun k hk => by show k ≠ gi; have := HG6.out; omega) (.int .i64 (ins3.getD tn 0 - 1)))
                  generalize ins3.getD tn 0 = vt at hc3 hval HDA HOX HRX
                  clear htj htn hci3
                  cases byb with
                  | true =>
                    go_wp2_with fail
                    go_roundg (m - (j + 1))
                    case measure => omega
                    case rel => exact ⟨j + 1, ins3, by omega, by omega, by rw [show (j : Int) + 1 = ((j + 1 : Nat) : Int) by omega], ⟨by rw [HN3.out]; rfl⟩, HL3, ⟨fun v hv => by have := HB3.out v hv; omega⟩, HO3, HR3⟩
                  | false =>
                    go_wp2_with fail
                    go_roundg (m - (j + 1))
                    case measure => omega
                    case rel => exact ⟨j + 1, ins3.set tn (vt - 1), by omega, by omega, by rw [show (j : Int) + 1 = ((j + 1 : Nat) : Int) by omega], ⟨by rw [HN3.out, HDA.out]⟩, ⟨by rw [List.length_set]; exact HL3.out⟩, ⟨fun v hv => by have := HBX.out v (by rw [HDA.out]; exact hv); omega⟩, HOX, HRX⟩
                · obtain rfl : j = m := by omega
                  have HTF := Aside0.mk (show T = ordF l f ins3 (done.set i true) (out ++ [(i : Int)]) by
                    have h1 := HTT.out
                    rw [ordF, ← HL.out, HFD.out] at h1
                    dsimp only at h1
                    have hxx : l.getD i (0, 0, 0, 0, 0) = x := by
                      rw [HXE.out, List.getD_eq_getElem?_getD, List.getElem?_eq_getElem hil]
                      rfl
                    rw [h1, hxx, ← HDB.out, HE3.out, List.take_of_length_le (by have := HMT.out; omega)])
                  go_wp2_with fail
                  go_roundg f
                  case measure => have := HFS.out; omega
                  case rel => exact ⟨f, ins3, done.set i true, out ++ [(i : Int)], A6, no + 1, c6, by have := HNF.out; omega, Nat.le_refl _, rfl, ⟨by rw [List.length_append, ← HLN.out.1]; rfl, HL3.out, by rw [List.length_set]; exact HLN.out.2.2⟩, HTF, ⟨fun v hv => by have := HB3.out v hv; have := HPL.out; omega⟩, HO3⟩
        · obtain rfl : i = n := by omega
          have hT : T = none := by
            rw [HTT.out, ordF, ← HL.out, find_no HNO.out]
          subst hT
          go_wp2_with fail
          go_ret2
          exact ⟨_, rfl, Kd.R_nil _ _ _ _ _, HO.out.below⟩
end Go.Proofs.YtjajehjhonabdaaX
