import Derived.Test.YtjajehjhonabdaaXBitAdvance
import Derived.Test.YtjajehjhonabdaaXBitB
namespace Go.Proofs.YtjajehjhonabdaaX
open Go.RowKit Go.Proofs.YtjajehjhonabdaaW.PrintWords Go.Proofs.YtjajehjhonabdaaW.PrintLast Go.Proofs.YtjajehjhonabdaaW.PrintMore
open Bit
set_option linter.unusedVariables false
set_option linter.unusedSimpArgs false
/-! walker.from. -/
/-- The last job is taken off. -/
theorem wk_pop {W : World} {base gw gc gm gd : Nat} {t : ByteArray} {long : Bool} {rows cols : Nat} {S : List Nat} {A : Option Addr} {n c : Nat} {vs vb : Value} {jobs : List Job} {j : Job} {sl : List Int} {best : Option (List Int)} {st : Nat} (h : WkI W base gw gc gm gd t long rows cols S (.slice A n c) vs vb (jobs ++ [j]) sl best st) :
    WkI (W.setCell ⟨gw, 4, none⟩ (.slice A jobs.length c)) base gw gc gm gd t long rows cols S (.slice A jobs.length c) vs vb jobs sl best st ∧ Below base W (W.setCell ⟨gw, 4, none⟩ (.slice A jobs.length c)) := by
  have h1 := Kd.R_take h.hJ (m := jobs.length) (by simp)
  rw [List.take_left] at h1
  exact ⟨wk_jobs h (fun _ _ _ => rfl) h1 (fun e => Kd.R_ne h1 h.hW (by decide) e.symm), (Below.refl _ _).setCell (p := ⟨gw, 4, none⟩) h.bw _⟩
theorem wk_none {W : World} {base gw gc gm gd : Nat} {t : ByteArray} {long : Bool} {rows cols : Nat} {S : List Nat} {vj vs vb : Value} {jobs : List Job} {sl : List Int} {best : Option (List Int)} {st : Nat} (h : WkI W base gw gc gm gd t long rows cols S vj vs vb jobs sl best st) :
    WkI (W.setCell ⟨gw, 4, none⟩ (.slice none 0 0)) base gw gc gm gd t long rows cols S (.slice none 0 0) vs vb [] sl best st ∧ Below base W (W.setCell ⟨gw, 4, none⟩ (.slice none 0 0)) :=
  ⟨wk_jobs h (fun _ _ _ => rfl) (Kd.R_nil _ _ _ _ _) (fun e => by cases e), (Below.refl _ _).setCell (p := ⟨gw, 4, none⟩) h.bw _⟩
theorem ta_restore (k h : Int) (w : World) : (Instr.typeAssert (.iface 104 (.agg #[.int .i64 k, .int .i64 h])) 102 104 true).run Try.prog w = .ok (.tuple #[.agg #[.int .i64 k, .int .i64 h], .bool true]) w := by kernel_rfl
theorem ta_visit (k h : Int) (w : World) : (Instr.typeAssert (.iface 101 (.agg #[.int .i64 k, .int .i64 h])) 102 101 true).run Try.prog w = .ok (.tuple #[.agg #[.int .i64 k, .int .i64 h], .bool true]) w := by kernel_rfl
theorem ta_other (k h : Int) (w : World) : (Instr.typeAssert (.iface 101 (.agg #[.int .i64 k, .int .i64 h])) 102 104 true).run Try.prog w = .ok (.tuple #[.agg #[.int .i64 0, .int .i64 0], .bool false]) w := by kernel_rfl
def FromPost (base gw gc gm gd : Nat) (t : ByteArray) (long : Bool) (rows b : Nat) (W : World) (s : St) (e : Ending) (W' : World) : Prop := e = .returned (.tuple #[]) ∧ (∃ vj' vs' vb', WkI W' base gw gc gm gd t long rows (t.size + 1) s.S vj' vs' vb' [] s.sl s.best s.steps) ∧ (s.sl.length = b ∧ Small (t.size + 1) rows s.S ∧ s.steps ≤ s.S.length) ∧ Below base W W'
set_option maxHeartbeats 4000000 in
set_option maxRecDepth 20000 in
theorem from_walk {l : List I5} {a0 b : Int} {o : List Int} (hP : ProgOk l a0 b) (t : ByteArray) (long : Bool) {base gw gc gm gd : Nat} (hgc : gc < base) (hsz : l.length * (t.size + 1) ≤ 262144) (f : Nat) {W : World} {s : St} {a : Nat} {vj vs vb : Value} {r : St × Bool} (hw : WkI W base gw gc gm gd t long l.length (t.size + 1) s.S vj vs vb [] s.sl s.best s.steps) (hck : Ck W gc l a0 b o) (hbase : base ≤ W.heap.size) (ha : a ≤ t.size) (hsl : s.sl.length = b.toNat) (hsm : Small (t.size + 1) l.length s.S) (hst : s.steps ≤ s.S.length) (hr : run (mvP l t) (t.size + 1) long f { s with sl := s.sl.set 0 (a : Int) } [.visit a0.toNat a] = some r) :
    Calls Try.prog 22 #[.pointer (some ⟨gw, 0, none⟩), .int .i64 a] W (FromPost base gw gc gm gd t long l.length b.toNat W r.1) := by
  have HPO := Aside0.mk (show FromPost base gw gc gm gd t long l.length b.toNat W r.1 = fun e W' => e = .returned (.tuple #[]) ∧ (∃ vj' vs' vb', WkI W' base gw gc gm gd t long l.length (t.size + 1) r.1.S vj' vs' vb' [] r.1.sl r.1.best r.1.steps) ∧ (r.1.sl.length = b.toNat ∧ Small (t.size + 1) l.length r.1.S ∧ r.1.steps ≤ r.1.S.length) ∧ Below base W W' from rfl)
  generalize FromPost base gw gc gm gd t long l.length b.toNat W r.1 = PO at HPO ⊢
  have hb2 := hP.slots
  have hst0 := hP.start
  obtain ⟨p0, rfl⟩ := Int.eq_ofNat_of_zero_le hst0.1
  rw [Int.toNat_natCast] at hr
  obtain ⟨gs, cs, rfl, -, hgsl, hgst⟩ := Kd.R_form hw.hS (by omega)
  obtain ⟨Aj, cj, rfl⟩ := Kd.R_slice hw.hJ
  have e5 : W.cell? ⟨gw, 5, none⟩ = some (.slice (some ⟨gs, 0, none⟩) s.sl.length cs) := (blk_cell hw.hW 5).trans rfl
  have c0 : W.cell? ⟨gs, 0, none⟩ = some (.int .i64 (rdOf 0 s.sl 0)) := (Kd.R_celln 0 hw.hS 0 (by omega) (by omega)).1
  have f0 : W.frozen? ⟨gs, 0, none⟩ = false := (Kd.R_celln 0 hw.hS 0 (by omega) (by omega)).2
  have hpos : (0 : Int) < (s.sl.length : Int) := by omega
  obtain ⟨hw1, hb1⟩ := wk_slot hw 0 (a : Int)
  have HP := Aside0.mk hP
  have HGC := Aside0.mk hgc
  have HSZ := Aside0.mk hsz
  have HW1 := Aside0.mk hw1
  have HB1 := Aside0.mk hb1
  have HBS := Aside0.mk (show base ≤ (W.setCell ⟨gs, 0, none⟩ (.int .i64 (a : Int))).heap.size from by simpa [World.setCell] using hbase)
  have HK := Aside0.mk hck
  have HR := Aside0.mk hr
  have HFI := Aside0.mk (show FromI l.length b.toNat (t.size + 1) { s with sl := s.sl.set 0 (a : Int) } [.visit p0 a] from ⟨by simpa using hsl, hsm, hst, by simp, fun j hj => by
    rcases List.mem_cons.1 hj with rfl | hj
    · exact ⟨by omega, by omega⟩
    · cases hj⟩)
  generalize rdOf 0 s.sl 0 = z0 at c0
  clear hP hgc hsz hw hck hbase hr hw1 hb1 hsl hsm hst hb2 hst0 hgsl hgst
  generalize s.sl.length = ns at e5 hpos HW1
  go_enter Try.func22, Try.ntmps22
  go_upto_region 1 with fail
  clear e5 c0 f0 hpos
  generalize W.setCell ⟨gs, 0, none⟩ (.int .i64 (a : Int)) = w1 at *
  have HK1 := Aside0.mk (HK.out.stay HGC.out HB1.out)
  have HE4 := Aside0.mk (show w1.cell? ⟨gw, 4, none⟩ = some (.slice Aj 0 cj) from (blk_cell HW1.out.hW 4).trans rfl)
  have HE0 := Aside0.mk (show w1.cell? ⟨gw, 0, none⟩ = some (.pointer (some ⟨gc, 0, none⟩)) from (blk_cell HW1.out.hW 0).trans rfl)
  have HGW := Aside0.mk (blk_lt HW1.out.hW)
  have e4 := HE4.out
  have ha4 : ∀ o, (w1.alloc o).cell? ⟨gw, 4, none⟩ = some (.slice Aj 0 cj) := fun o => (World.cell?_alloc_lt w1 o ⟨gw, 4, none⟩ HGW.out).trans HE4.out
  go_cut [] (fun wc => ∃ (A1 : Option Addr) (n1 c1 : Nat), Aside0 (WkI wc base gw gc gm gd t long l.length (t.size + 1) s.S (.slice A1 n1 c1) (.slice (some ⟨gs, 0, none⟩) ns cs) vb [Job.visit p0 a] (s.sl.set 0 (a : Int)) s.best s.steps) ∧ Aside0 (Below base W wc))
  case first =>
    refine wp_region_noPanic ?_
    refine wp_region_held_drew (S := (fun W => W.cell? ⟨gw, 0, none⟩ = some (.pointer (some ⟨gc, 0, none⟩)))) (by kernel_rfl) ?_ (fun hHeld => ?_)
    · (try dsimp only); first | exact HE0.out | exact HQ5.out | exact HQ6.out | exact (Below.cell (B := w1.heap.size) (w := w1) (p := ⟨gw, 0, none⟩) (by repeat (first | exact Below.refl _ _ | apply pw_below_drewN | apply below_drew1 | refine Below.alloc ?_ (Nat.le_refl _) _)) HGW.out).trans HE0.out
    refine wpAnyH_take (i := 0) (v := ?v0) rfl (by kernel_rfl) (by kernel_rfl) (by kernel_rfl) (fun _ _ _ h => h) (Or.inl ⟨by rfl, ?y0⟩) (by assumption) ?r0
    (case y0 => (intro w hSw; (try dsimp only at hSw); go_simp); all_goals (with_reducible rfl))
    (try simp only [Act.put, List.setIfInBounds_toArray, List.set_cons_zero, List.set_cons_succ])
    refine wpAnyH_take (i := 1) (v := ?v1) rfl (by kernel_rfl) (by kernel_rfl) (by kernel_rfl) (fun _ _ _ h => h) (Or.inl ⟨by rfl, ?y1⟩) (by assumption) ?r1
    (case y1 => (intro w hSw; (try dsimp only at hSw); go_simp); all_goals (with_reducible rfl))
    (try simp only [Act.put, List.setIfInBounds_toArray, List.set_cons_zero, List.set_cons_succ])
    refine wpAnyH_take (i := 2) (v := ?v2) rfl (by kernel_rfl) (by kernel_rfl) (by kernel_rfl) (fun _ _ _ h => h) (Or.inl ⟨by rfl, ?y2⟩) (by assumption) ?r2
    (case y2 => (intro w hSw; (try dsimp only at hSw); go_simp); all_goals (with_reducible rfl))
    (try simp only [Act.put, List.setIfInBounds_toArray, List.set_cons_zero, List.set_cons_succ])
    refine wpAnyH_take (i := 3) (v := ?v3) rfl (by kernel_rfl) (by kernel_rfl) (by kernel_rfl) (fun _ _ _ h => h) (Or.inl ⟨by rfl, ?y3⟩) (by assumption) ?r3
    (case y3 => (intro w hSw; (try dsimp only at hSw); go_simp); all_goals (with_reducible rfl))
    (try simp only [Act.put, List.setIfInBounds_toArray, List.set_cons_zero, List.set_cons_succ])
    refine wpAnyH_take (i := 5) (v := ?v4) rfl (by kernel_rfl) (by kernel_rfl) (by kernel_rfl) (fun _ _ _ h => h) (Or.inl ⟨by rfl, ?y4⟩) (by assumption) ?r4
    (case y4 => (intro w hSw; (try dsimp only at hSw); go_simp); all_goals (with_reducible rfl))
    (try simp only [Act.put, List.setIfInBounds_toArray, List.set_cons_zero, List.set_cons_succ])
    refine wpAnyH_take (i := 6) (v := ?v5) rfl (by kernel_rfl) (by kernel_rfl) (by kernel_rfl) (fun _ _ _ h => h) (Or.inl ⟨by rfl, ?y5⟩) (by assumption) ?r5
    (case y5 => (intro w hSw; (try dsimp only at hSw); go_simp); all_goals (with_reducible rfl))
    (try simp only [Act.put, List.setIfInBounds_toArray, List.set_cons_zero, List.set_cons_succ])
    refine wpAnyH_take (i := 7) (v := ?v6) rfl (by kernel_rfl) (by kernel_rfl) (by kernel_rfl) (fun _ _ _ h => h) (Or.inl ⟨by rfl, ?y6⟩) (by assumption) ?r6
    (case y6 => (intro w hSw; (try dsimp only at hSw); go_simp); all_goals (with_reducible rfl))
    (try simp only [Act.put, List.setIfInBounds_toArray, List.set_cons_zero, List.set_cons_succ])
    refine wpAnyH_take (i := 8) (v := ?v7) rfl (by kernel_rfl) (by kernel_rfl) (by kernel_rfl) (fun _ _ _ h => h) (Or.inl ⟨by rfl, ?y7⟩) (by assumption) ?r7
    (case y7 => (intro w hSw; (try dsimp only at hSw); go_simp); all_goals (with_reducible rfl))
    (try simp only [Act.put, List.setIfInBounds_toArray, List.set_cons_zero, List.set_cons_succ])
    refine wpAnyH_take (i := 10) (v := ?v8) rfl (by kernel_rfl) (by kernel_rfl) (by kernel_rfl) (fun _ _ _ h => h) (Or.inl ⟨by rfl, ?y8⟩) (by assumption) ?r8
    (case y8 => (intro w hSw; (try dsimp only at hSw); go_simp); all_goals (with_reducible rfl))
    (try simp only [Act.put, List.setIfInBounds_toArray, List.set_cons_zero, List.set_cons_succ])
    refine wpAnyH_ready (rs := [4, 9]) (by kernel_rfl) (by simp) ?_
    refine AllReadyH.cons rfl (fun K hK => ?_) ?_
    · skip
      go_simp
      refine hK.out _ _ ?_ (fun hHeld => ?_)
      · (try dsimp only); first | exact HE0.out | exact HQ5.out | exact HQ6.out | exact (Below.cell (B := w1.heap.size) (w := w1) (p := ⟨gw, 0, none⟩) (by repeat (first | exact Below.refl _ _ | apply pw_below_drewN | apply below_drew1 | refine Below.alloc ?_ (Nat.le_refl _) _)) HGW.out).trans HE0.out
      clear hK K
      (try simp only [Act.put, List.setIfInBounds_toArray, List.set_cons_zero, List.set_cons_succ])
      refine wpAnyH_ready (rs := [9]) (by kernel_rfl) (by simp) ?_
      refine AllReadyH.cons rfl (fun K hK => ?_) AllReadyH.nil
      (go_simp; refine (start_at (HK1.out.step (by repeat (first | exact Below.refl _ _ | apply pw_below_drewN | apply below_drew1)))).mono ?_; rintro e w' ⟨rfl, rfl⟩; go_wp2_with fail)
      refine hK.out _ _ ?_ (fun hHeld => ?_)
      · (try dsimp only); first | exact HE0.out | exact HQ5.out | exact HQ6.out | exact (Below.cell (B := w1.heap.size) (w := w1) (p := ⟨gw, 0, none⟩) (by repeat (first | exact Below.refl _ _ | apply pw_below_drewN | apply below_drew1 | refine Below.alloc ?_ (Nat.le_refl _) _)) HGW.out).trans HE0.out
      clear hK K
      (try simp only [Act.put, List.setIfInBounds_toArray, List.set_cons_zero, List.set_cons_succ])
      refine wpAnyH_take (i := 11) (v := ?v9) rfl (by kernel_rfl) (by kernel_rfl) (by kernel_rfl) (fun _ _ _ h => h) (Or.inl ⟨by rfl, ?y9⟩) (by assumption) ?r9
      (case y9 => (intro w hSw; (try dsimp only at hSw); go_simp); all_goals (with_reducible rfl))
      (try simp only [Act.put, List.setIfInBounds_toArray, List.set_cons_zero, List.set_cons_succ])
      refine wpAnyH_take (i := 12) (v := ?v10) rfl (by kernel_rfl) (by kernel_rfl) (by kernel_rfl) (fun _ _ _ h => h) (Or.inl ⟨by rfl, ?y10⟩) (by assumption) ?r10
      (case y10 => (intro w hSw; (try dsimp only at hSw); go_simp); all_goals (with_reducible rfl))
      (try simp only [Act.put, List.setIfInBounds_toArray, List.set_cons_zero, List.set_cons_succ])
      refine wpAnyH_ready (rs := [13]) (by kernel_rfl) (by simp) ?_
      refine AllReadyH.cons rfl (fun K hK => ?_) AllReadyH.nil
      go_simp
      refine hK.out _ _ ?_ (fun hHeld => ?_)
      · (try dsimp only); first | exact HE0.out | exact HQ5.out | exact HQ6.out | exact (Below.cell (B := w1.heap.size) (w := w1) (p := ⟨gw, 0, none⟩) (by repeat (first | exact Below.refl _ _ | apply pw_below_drewN | apply below_drew1 | refine Below.alloc ?_ (Nat.le_refl _) _)) HGW.out).trans HE0.out
      clear hK K
      (try simp only [Act.put, List.setIfInBounds_toArray, List.set_cons_zero, List.set_cons_succ])
      refine wpAnyH_ready (rs := [14]) (by kernel_rfl) (by simp) ?_
      refine AllReadyH.cons rfl (fun K hK => ?_) AllReadyH.nil
      ((refine Kd.R_append_step kJob (w0 := W) (W := w1.drew) base (by rfl) (.tmp 18) (.tmp 27) 61 102 .nilIface 16 (by rfl) Try.underlying61 info_job rfl (by decide) (by omega) (.slice Aj 0 cj) [] (Job.visit p0 a) [.iface 101 (.agg #[.int .i64 (p0 : Int), .int .i64 (a : Int)])] (fun _ => True) (fun _ => False) (by rfl) ?aX ?aP (fun _ hk => hk.elim) (fun _ _ => trivial) ?aO ?aB ?aS ?aL ?_; (case aX => (first | rfl | (simp [Act.eval]; done) | (simp [Act.eval] <;> rfl))); (case aP => exact rfl); (case aO => exact R_stay HW1.out.hJ (fun _ _ => rfl) (fun _ _ => trivial)); (case aB => (repeat (first | exact HB1.out | apply pw_below_drewN | apply below_drew1))); (case aS => exact HBS.out); (case aL => simp); intro v1 w5 ho hb hg hat; obtain ⟨A1, c1, e1⟩ := Kd.R_slice ho; obtain ⟨n1, hn1⟩ : ∃ n, ([] ++ [Job.visit p0 a]).length = n := ⟨_, rfl⟩; rw [hn1] at e1; subst e1; obtain ⟨hw5, hgw5, hoth⟩ := wk_push (W := w1.drew) HW1.out rfl ho hg; have HW5 := Aside0.mk hw5; have HB5 := Aside0.mk (show Below base W (w5.setCell ⟨gw, 4, none⟩ (.slice A1 n1 c1)) from hb.setCell (p := ⟨gw, 4, none⟩) HW1.out.bw _); have f4 : w5.frozen? ⟨gw, 4, none⟩ = false := blk_frozen (hgw5.trans HW1.out.hW) 4; have f4c : w5.cell? ⟨gw, 4, none⟩ = some (.slice Aj 0 cj) := (blk_cell (hgw5.trans HW1.out.hW) 4).trans rfl; have HQ5 := Aside0.mk (show w5.cell? ⟨gw, 0, none⟩ = some (.pointer (some ⟨gc, 0, none⟩)) from (blk_cell (hgw5.trans HW1.out.hW) 0).trans rfl); have HQ6 := Aside0.mk (show (w5.setCell ⟨gw, 4, none⟩ (.slice A1 n1 c1)).cell? ⟨gw, 0, none⟩ = some (.pointer (some ⟨gc, 0, none⟩)) from (blk_cell hw5.hW 0).trans rfl); clear ho hb hg hat hgw5 hoth hw5))
      refine hK.out _ _ ?_ (fun hHeld => ?_)
      · (try dsimp only); first | exact HE0.out | exact HQ5.out | exact HQ6.out | exact (Below.cell (B := w1.heap.size) (w := w1) (p := ⟨gw, 0, none⟩) (by repeat (first | exact Below.refl _ _ | apply pw_below_drewN | apply below_drew1 | refine Below.alloc ?_ (Nat.le_refl _) _)) HGW.out).trans HE0.out
      clear hK K
      (try simp only [Act.put, List.setIfInBounds_toArray, List.set_cons_zero, List.set_cons_succ])
      refine wpAnyH_take (i := 15) (v := ?v11) rfl (by kernel_rfl) (by kernel_rfl) (by kernel_rfl) (fun _ _ _ h => h) (Or.inl ⟨by rfl, ?y11⟩) (by assumption) ?r11
      (case y11 => (intro w hSw; (try dsimp only at hSw); go_simp); all_goals (with_reducible rfl))
      (try simp only [Act.put, List.setIfInBounds_toArray, List.set_cons_zero, List.set_cons_succ])
      refine wpAnyH_take (i := 16) (v := ?v12) rfl (by kernel_rfl) (by kernel_rfl) (by kernel_rfl) (fun _ _ _ h => h) (Or.inl ⟨by rfl, ?y12⟩) (by assumption) ?r12
      (case y12 => (intro w hSw; (try dsimp only at hSw); go_simp); all_goals (with_reducible rfl))
      (try simp only [Act.put, List.setIfInBounds_toArray, List.set_cons_zero, List.set_cons_succ])
      refine wpAnyH_ready (rs := [17]) (by kernel_rfl) (by simp) ?_
      refine AllReadyH.cons rfl (fun K hK => ?_) AllReadyH.nil
      go_simp
      refine hK.out _ _ ?_ (fun hHeld => ?_)
      · (try dsimp only); first | exact HE0.out | exact HQ5.out | exact HQ6.out | exact (Below.cell (B := w1.heap.size) (w := w1) (p := ⟨gw, 0, none⟩) (by repeat (first | exact Below.refl _ _ | apply pw_below_drewN | apply below_drew1 | refine Below.alloc ?_ (Nat.le_refl _) _)) HGW.out).trans HE0.out
      clear hK K
      (try simp only [Act.put, List.setIfInBounds_toArray, List.set_cons_zero, List.set_cons_succ])
      refine wpAnyH_done (by kernel_rfl) ?_ _
      refine NoPanic.normal ?_
      go_wp2_with fail
      go_meet
      (case rel => exact ⟨A1, n1, c1, HW5, HB5⟩)
    refine AllReadyH.cons rfl (fun K hK => ?_) AllReadyH.nil
    (go_simp; refine (start_at (HK1.out.step (by repeat (first | exact Below.refl _ _ | apply pw_below_drewN | apply below_drew1)))).mono ?_; rintro e w' ⟨rfl, rfl⟩; go_wp2_with fail)
    refine hK.out _ _ ?_ (fun hHeld => ?_)
    · (try dsimp only); first | exact HE0.out | exact HQ5.out | exact HQ6.out | exact (Below.cell (B := w1.heap.size) (w := w1) (p := ⟨gw, 0, none⟩) (by repeat (first | exact Below.refl _ _ | apply pw_below_drewN | apply below_drew1 | refine Below.alloc ?_ (Nat.le_refl _) _)) HGW.out).trans HE0.out
    clear hK K
    (try simp only [Act.put, List.setIfInBounds_toArray, List.set_cons_zero, List.set_cons_succ])
    refine wpAnyH_take (i := 11) (v := ?v13) rfl (by kernel_rfl) (by kernel_rfl) (by kernel_rfl) (fun _ _ _ h => h) (Or.inl ⟨by rfl, ?y13⟩) (by assumption) ?r13
    (case y13 => (intro w hSw; (try dsimp only at hSw); go_simp); all_goals (with_reducible rfl))
    (try simp only [Act.put, List.setIfInBounds_toArray, List.set_cons_zero, List.set_cons_succ])
    refine wpAnyH_take (i := 12) (v := ?v14) rfl (by kernel_rfl) (by kernel_rfl) (by kernel_rfl) (fun _ _ _ h => h) (Or.inl ⟨by rfl, ?y14⟩) (by assumption) ?r14
    (case y14 => (intro w hSw; (try dsimp only at hSw); go_simp); all_goals (with_reducible rfl))
    (try simp only [Act.put, List.setIfInBounds_toArray, List.set_cons_zero, List.set_cons_succ])
    refine wpAnyH_ready (rs := [4, 13]) (by kernel_rfl) (by simp) ?_
    refine AllReadyH.cons rfl (fun K hK => ?_) ?_
    · skip
      go_simp
      refine hK.out _ _ ?_ (fun hHeld => ?_)
      · (try dsimp only); first | exact HE0.out | exact HQ5.out | exact HQ6.out | exact (Below.cell (B := w1.heap.size) (w := w1) (p := ⟨gw, 0, none⟩) (by repeat (first | exact Below.refl _ _ | apply pw_below_drewN | apply below_drew1 | refine Below.alloc ?_ (Nat.le_refl _) _)) HGW.out).trans HE0.out
      clear hK K
      (try simp only [Act.put, List.setIfInBounds_toArray, List.set_cons_zero, List.set_cons_succ])
      refine wpAnyH_ready (rs := [13]) (by kernel_rfl) (by simp) ?_
      refine AllReadyH.cons rfl (fun K hK => ?_) AllReadyH.nil
      go_simp
      refine hK.out _ _ ?_ (fun hHeld => ?_)
      · (try dsimp only); first | exact HE0.out | exact HQ5.out | exact HQ6.out | exact (Below.cell (B := w1.heap.size) (w := w1) (p := ⟨gw, 0, none⟩) (by repeat (first | exact Below.refl _ _ | apply pw_below_drewN | apply below_drew1 | refine Below.alloc ?_ (Nat.le_refl _) _)) HGW.out).trans HE0.out
      clear hK K
      (try simp only [Act.put, List.setIfInBounds_toArray, List.set_cons_zero, List.set_cons_succ])
      refine wpAnyH_ready (rs := [14]) (by kernel_rfl) (by simp) ?_
      refine AllReadyH.cons rfl (fun K hK => ?_) AllReadyH.nil
      ((refine Kd.R_append_step kJob (w0 := W) (W := w1.drew) base (by rfl) (.tmp 18) (.tmp 27) 61 102 .nilIface 16 (by rfl) Try.underlying61 info_job rfl (by decide) (by omega) (.slice Aj 0 cj) [] (Job.visit p0 a) [.iface 101 (.agg #[.int .i64 (p0 : Int), .int .i64 (a : Int)])] (fun _ => True) (fun _ => False) (by rfl) ?aX ?aP (fun _ hk => hk.elim) (fun _ _ => trivial) ?aO ?aB ?aS ?aL ?_; (case aX => (first | rfl | (simp [Act.eval]; done) | (simp [Act.eval] <;> rfl))); (case aP => exact rfl); (case aO => exact R_stay HW1.out.hJ (fun _ _ => rfl) (fun _ _ => trivial)); (case aB => (repeat (first | exact HB1.out | apply pw_below_drewN | apply below_drew1))); (case aS => exact HBS.out); (case aL => simp); intro v1 w5 ho hb hg hat; obtain ⟨A1, c1, e1⟩ := Kd.R_slice ho; obtain ⟨n1, hn1⟩ : ∃ n, ([] ++ [Job.visit p0 a]).length = n := ⟨_, rfl⟩; rw [hn1] at e1; subst e1; obtain ⟨hw5, hgw5, hoth⟩ := wk_push (W := w1.drew) HW1.out rfl ho hg; have HW5 := Aside0.mk hw5; have HB5 := Aside0.mk (show Below base W (w5.setCell ⟨gw, 4, none⟩ (.slice A1 n1 c1)) from hb.setCell (p := ⟨gw, 4, none⟩) HW1.out.bw _); have f4 : w5.frozen? ⟨gw, 4, none⟩ = false := blk_frozen (hgw5.trans HW1.out.hW) 4; have f4c : w5.cell? ⟨gw, 4, none⟩ = some (.slice Aj 0 cj) := (blk_cell (hgw5.trans HW1.out.hW) 4).trans rfl; have HQ5 := Aside0.mk (show w5.cell? ⟨gw, 0, none⟩ = some (.pointer (some ⟨gc, 0, none⟩)) from (blk_cell (hgw5.trans HW1.out.hW) 0).trans rfl); have HQ6 := Aside0.mk (show (w5.setCell ⟨gw, 4, none⟩ (.slice A1 n1 c1)).cell? ⟨gw, 0, none⟩ = some (.pointer (some ⟨gc, 0, none⟩)) from (blk_cell hw5.hW 0).trans rfl); clear ho hb hg hat hgw5 hoth hw5))
      refine hK.out _ _ ?_ (fun hHeld => ?_)
      · (try dsimp only); first | exact HE0.out | exact HQ5.out | exact HQ6.out | exact (Below.cell (B := w1.heap.size) (w := w1) (p := ⟨gw, 0, none⟩) (by repeat (first | exact Below.refl _ _ | apply pw_below_drewN | apply below_drew1 | refine Below.alloc ?_ (Nat.le_refl _) _)) HGW.out).trans HE0.out
      clear hK K
      (try simp only [Act.put, List.setIfInBounds_toArray, List.set_cons_zero, List.set_cons_succ])
      refine wpAnyH_take (i := 15) (v := ?v15) rfl (by kernel_rfl) (by kernel_rfl) (by kernel_rfl) (fun _ _ _ h => h) (Or.inl ⟨by rfl, ?y15⟩) (by assumption) ?r15
      (case y15 => (intro w hSw; (try dsimp only at hSw); go_simp); all_goals (with_reducible rfl))
      (try simp only [Act.put, List.setIfInBounds_toArray, List.set_cons_zero, List.set_cons_succ])
      refine wpAnyH_take (i := 16) (v := ?v16) rfl (by kernel_rfl) (by kernel_rfl) (by kernel_rfl) (fun _ _ _ h => h) (Or.inl ⟨by rfl, ?y16⟩) (by assumption) ?r16
      (case y16 => (intro w hSw; (try dsimp only at hSw); go_simp); all_goals (with_reducible rfl))
      (try simp only [Act.put, List.setIfInBounds_toArray, List.set_cons_zero, List.set_cons_succ])
      refine wpAnyH_ready (rs := [17]) (by kernel_rfl) (by simp) ?_
      refine AllReadyH.cons rfl (fun K hK => ?_) AllReadyH.nil
      go_simp
      refine hK.out _ _ ?_ (fun hHeld => ?_)
      · (try dsimp only); first | exact HE0.out | exact HQ5.out | exact HQ6.out | exact (Below.cell (B := w1.heap.size) (w := w1) (p := ⟨gw, 0, none⟩) (by repeat (first | exact Below.refl _ _ | apply pw_below_drewN | apply below_drew1 | refine Below.alloc ?_ (Nat.le_refl _) _)) HGW.out).trans HE0.out
      clear hK K
      (try simp only [Act.put, List.setIfInBounds_toArray, List.set_cons_zero, List.set_cons_succ])
      refine wpAnyH_done (by kernel_rfl) ?_ _
      refine NoPanic.normal ?_
      go_wp2_with fail
      go_meet
      (case rel => exact ⟨A1, n1, c1, HW5, HB5⟩)
    refine AllReadyH.cons rfl (fun K hK => ?_) AllReadyH.nil
    go_simp
    refine hK.out _ _ ?_ (fun hHeld => ?_)
    · (try dsimp only); first | exact HE0.out | exact HQ5.out | exact HQ6.out | exact (Below.cell (B := w1.heap.size) (w := w1) (p := ⟨gw, 0, none⟩) (by repeat (first | exact Below.refl _ _ | apply pw_below_drewN | apply below_drew1 | refine Below.alloc ?_ (Nat.le_refl _) _)) HGW.out).trans HE0.out
    clear hK K
    (try simp only [Act.put, List.setIfInBounds_toArray, List.set_cons_zero, List.set_cons_succ])
    refine wpAnyH_ready (rs := [4]) (by kernel_rfl) (by simp) ?_
    refine AllReadyH.cons rfl (fun K hK => ?_) AllReadyH.nil
    go_simp
    refine hK.out _ _ ?_ (fun hHeld => ?_)
    · (try dsimp only); first | exact HE0.out | exact HQ5.out | exact HQ6.out | exact (Below.cell (B := w1.heap.size) (w := w1) (p := ⟨gw, 0, none⟩) (by repeat (first | exact Below.refl _ _ | apply pw_below_drewN | apply below_drew1 | refine Below.alloc ?_ (Nat.le_refl _) _)) HGW.out).trans HE0.out
    clear hK K
    (try simp only [Act.put, List.setIfInBounds_toArray, List.set_cons_zero, List.set_cons_succ])
    refine wpAnyH_ready (rs := [14]) (by kernel_rfl) (by simp) ?_
    refine AllReadyH.cons rfl (fun K hK => ?_) AllReadyH.nil
    ((refine Kd.R_append_step kJob (w0 := W) (W := w1.drew) base (by rfl) (.tmp 18) (.tmp 27) 61 102 .nilIface 16 (by rfl) Try.underlying61 info_job rfl (by decide) (by omega) (.slice Aj 0 cj) [] (Job.visit p0 a) [.iface 101 (.agg #[.int .i64 (p0 : Int), .int .i64 (a : Int)])] (fun _ => True) (fun _ => False) (by rfl) ?aX ?aP (fun _ hk => hk.elim) (fun _ _ => trivial) ?aO ?aB ?aS ?aL ?_; (case aX => (first | rfl | (simp [Act.eval]; done) | (simp [Act.eval] <;> rfl))); (case aP => exact rfl); (case aO => exact R_stay HW1.out.hJ (fun _ _ => rfl) (fun _ _ => trivial)); (case aB => (repeat (first | exact HB1.out | apply pw_below_drewN | apply below_drew1))); (case aS => exact HBS.out); (case aL => simp); intro v1 w5 ho hb hg hat; obtain ⟨A1, c1, e1⟩ := Kd.R_slice ho; obtain ⟨n1, hn1⟩ : ∃ n, ([] ++ [Job.visit p0 a]).length = n := ⟨_, rfl⟩; rw [hn1] at e1; subst e1; obtain ⟨hw5, hgw5, hoth⟩ := wk_push (W := w1.drew) HW1.out rfl ho hg; have HW5 := Aside0.mk hw5; have HB5 := Aside0.mk (show Below base W (w5.setCell ⟨gw, 4, none⟩ (.slice A1 n1 c1)) from hb.setCell (p := ⟨gw, 4, none⟩) HW1.out.bw _); have f4 : w5.frozen? ⟨gw, 4, none⟩ = false := blk_frozen (hgw5.trans HW1.out.hW) 4; have f4c : w5.cell? ⟨gw, 4, none⟩ = some (.slice Aj 0 cj) := (blk_cell (hgw5.trans HW1.out.hW) 4).trans rfl; have HQ5 := Aside0.mk (show w5.cell? ⟨gw, 0, none⟩ = some (.pointer (some ⟨gc, 0, none⟩)) from (blk_cell (hgw5.trans HW1.out.hW) 0).trans rfl); have HQ6 := Aside0.mk (show (w5.setCell ⟨gw, 4, none⟩ (.slice A1 n1 c1)).cell? ⟨gw, 0, none⟩ = some (.pointer (some ⟨gc, 0, none⟩)) from (blk_cell hw5.hW 0).trans rfl); clear ho hb hg hat hgw5 hoth hw5))
    refine hK.out _ _ ?_ (fun hHeld => ?_)
    · (try dsimp only); first | exact HE0.out | exact HQ5.out | exact HQ6.out | exact (Below.cell (B := w1.heap.size) (w := w1) (p := ⟨gw, 0, none⟩) (by repeat (first | exact Below.refl _ _ | apply pw_below_drewN | apply below_drew1 | refine Below.alloc ?_ (Nat.le_refl _) _)) HGW.out).trans HE0.out
    clear hK K
    (try simp only [Act.put, List.setIfInBounds_toArray, List.set_cons_zero, List.set_cons_succ])
    refine wpAnyH_take (i := 15) (v := ?v17) rfl (by kernel_rfl) (by kernel_rfl) (by kernel_rfl) (fun _ _ _ h => h) (Or.inl ⟨by rfl, ?y17⟩) (by assumption) ?r17
    (case y17 => (intro w hSw; (try dsimp only at hSw); go_simp); all_goals (with_reducible rfl))
    (try simp only [Act.put, List.setIfInBounds_toArray, List.set_cons_zero, List.set_cons_succ])
    refine wpAnyH_take (i := 16) (v := ?v18) rfl (by kernel_rfl) (by kernel_rfl) (by kernel_rfl) (fun _ _ _ h => h) (Or.inl ⟨by rfl, ?y18⟩) (by assumption) ?r18
    (case y18 => (intro w hSw; (try dsimp only at hSw); go_simp); all_goals (with_reducible rfl))
    (try simp only [Act.put, List.setIfInBounds_toArray, List.set_cons_zero, List.set_cons_succ])
    refine wpAnyH_ready (rs := [17]) (by kernel_rfl) (by simp) ?_
    refine AllReadyH.cons rfl (fun K hK => ?_) AllReadyH.nil
    go_simp
    refine hK.out _ _ ?_ (fun hHeld => ?_)
    · (try dsimp only); first | exact HE0.out | exact HQ5.out | exact HQ6.out | exact (Below.cell (B := w1.heap.size) (w := w1) (p := ⟨gw, 0, none⟩) (by repeat (first | exact Below.refl _ _ | apply pw_below_drewN | apply below_drew1 | refine Below.alloc ?_ (Nat.le_refl _) _)) HGW.out).trans HE0.out
    clear hK K
    (try simp only [Act.put, List.setIfInBounds_toArray, List.set_cons_zero, List.set_cons_succ])
    refine wpAnyH_done (by kernel_rfl) ?_ _
    refine NoPanic.normal ?_
    go_wp2_with fail
    go_meet
    (case rel => exact ⟨A1, n1, c1, HW5, HB5⟩)
  case rest =>
    clear e4 ha4 HE4 HE0 HGW HB1 HW1 HBS HK1
    obtain ⟨A1, n1, c1, HW1, HB1⟩ := hcut
    go_wp2_with fail
    go_loopg [4, 5, 6, 7] f (fun gk s4 s5 s6 s7 wr => ∃ (s : St) (J : List Job) (vj vs vb : Value), Aside0 (WkI wr base gw gc gm gd t long l.length (t.size + 1) s.S vj vs vb J.reverse s.sl s.best s.steps) ∧ Aside0 (FromI l.length b.toNat (t.size + 1) s J) ∧ Aside0 (run (mvP l t) (t.size + 1) long gk s J = some r) ∧ Aside0 (Below base W wr))
    case atStart => exact ⟨{ s with sl := s.sl.set 0 (a : Int) }, [.visit p0 a], .slice A1 n1 c1, _, vb, HW1, HFI, HR, HB1⟩
    case round =>
      clear HW1 HFI HR HB1
      obtain ⟨s, J, vj, vs, vb, HW, HFI, HR, HB⟩ := hrel
      obtain ⟨Aj, cj, rfl⟩ := Kd.R_slice HW.out.hJ
      have HBS := Aside0.mk (show base ≤ wr.heap.size from Nat.le_trans HW.out.bw (Nat.le_of_lt (blk_lt HW.out.hW)))
      cases J with
      | nil =>
        have e4 : wr.cell? ⟨gw, 4, none⟩ = some (.slice Aj 0 cj) := (blk_cell HW.out.hW 4).trans rfl
        go_wp2_with fail
        go_end0
        obtain ⟨gk', rfl⟩ : ∃ g, gk = g + 1 := by
          cases gk with
          | zero => have := HR.out; cases this
          | succ g => exact ⟨g, rfl⟩
        have hr := HR.out
        rw [run] at hr
        have hrr := Option.some.inj hr
        rw [HPO.out, ← hrr]
        exact ⟨rfl, ⟨_, _, _, HW.out⟩, ⟨HFI.out.sl, HFI.out.small, HFI.out.steps⟩, HB.out⟩
      | cons j J =>
        obtain ⟨gk', rfl⟩ : ∃ g, gk = g + 1 := by
          cases gk with
          | zero => have := HR.out; cases this
          | succ g => exact ⟨g, rfl⟩
        rw [List.reverse_cons] at HW
        have HJL := Aside0.mk (show J.length ≤ 262144 from by have h1 := HFI.out.jobs; have h2 := small_len _ HFI.out.small; have h3 := HSZ.out; simp only [List.length_cons] at h1; omega)
        obtain ⟨gj, cj', hform, -, -, -⟩ := Kd.R_form HW.out.hJ (by simp)
        injection hform with hf1 hf2 hf3
        subst hf1
        clear hf2 hf3 cj'
        have hcap := (Kd.R_reads' HW.out.hJ).2.1
        have hcj := (Kd.R_celln (Job.visit 0 0) HW.out.hJ (J.reverse.length : Int) (by omega) (by simp; omega)).1
        rw [show rdOf (Job.visit 0 0) (J.reverse ++ [j]) (J.reverse.length : Int) = j from by simp [rdOf], Int.toNat_natCast] at hcj
        obtain ⟨n, hn⟩ : ∃ n, J.reverse.length = n := ⟨_, rfl⟩
        have HN := Aside0.mk hn
        have hn2 : n ≤ 262144 := by rw [← hn, List.length_reverse]; exact HJL.out
        rw [hn] at hcj
        rw [List.length_append, hn, List.length_singleton] at hcap HW
        clear hn
        obtain ⟨hw2, hb2⟩ := wk_pop HW.out
        rw [HN.out] at hw2 hb2
        have HW2 := Aside0.mk hw2
        have HB2 := Aside0.mk (HB.out.trans hb2)
        have e4 : wr.cell? ⟨gw, 4, none⟩ = some (.slice (some ⟨gj, 0, none⟩) (n + 1) cj) := (blk_cell HW.out.hW 4).trans rfl
        have f4 := blk_frozen HW.out.hW 4
        have q0 : ((0 : Int) < ((n + 1 : Nat) : Int)) = True := eq_true (by omega)
        have q1 : wrap64 (((n + 1 : Nat) : Int) - 1) = (n : Int) := by unfold wrap64; omega
        have q2 : (0 : Int) ≤ (n : Int) := by omega
        have q3 : (n : Int) < ((n + 1 : Nat) : Int) := by omega
        have q4 : (n : Int) ≤ (cj : Int) := by omega
        clear hw2 hb2 HB hcap
        cases j with
        | restore k hd =>
          unfold jobVal at hcj
          have hta := ta_restore (k : Int) hd
          have hkb : k < s.sl.length := by rw [HFI.out.sl]; exact HFI.out.fit _ List.mem_cons_self
          obtain ⟨gs, cs, rfl, -, hgsl, hgst⟩ := Kd.R_form HW.out.hS (by omega)
          have HS2 := Aside0.mk (show (wr.setCell ⟨gw, 4, none⟩ (.slice (some ⟨gj, 0, none⟩) n cj)).heap.size = wr.heap.size from by simp [World.setCell])
          obtain ⟨ns, hns⟩ : ∃ ns, s.sl.length = ns := ⟨_, rfl⟩
          rw [hns] at HW2 hkb
          clear hns hgsl hgst
          go_upto_region 9 with fail
          clear e4 f4 hcj hta q0 q1 q2 q3 q4 HW
          generalize wr.setCell ⟨gw, 4, none⟩ (.slice (some ⟨gj, 0, none⟩) n cj) = w2 at *
          have hbox := heap_alloc_last w2 (.cells #[.int .i64 (k : Int), .int .i64 hd] 104)
          have hal : Below w2.heap.size w2 (w2.alloc (.cells #[.int .i64 (k : Int), .int .i64 hd] 104)) := (Below.refl _ w2).alloc (Nat.le_refl _) _
          have HW3 := Aside0.mk (HW2.out.below hal)
          have HB3 := Aside0.mk (HB2.out.trans (hal.mono (Nat.le_trans HBS.out (Nat.le_of_eq HS2.out.symm))))
          rw [HS2.out] at hbox
          obtain ⟨B, hB⟩ : ∃ B, wr.heap.size = B := ⟨_, rfl⟩
          rw [hB] at hbox ⊢
          clear hal hB HS2
          generalize w2.alloc (.cells #[.int .i64 (k : Int), .int .i64 hd] 104) = w3 at *
          clear HW2 HB2
          obtain ⟨hw4, hb4⟩ := wk_slot HW3.out k hd
          obtain ⟨cells, hgs⟩ : ∃ cells, w3.heap[gs]? = some (.cells cells 3 (0, 0)) := by
            obtain ⟨_, inner, ho', _⟩ := HW3.out.hS
            exact own_typed ho' gs rfl
          have hfr := blk_frozen hgs k
          have HX4 := Aside0.mk ((Below.heap_setCell w3 ⟨gs, k, none⟩ (.int .i64 hd) B (show B ≠ gs from blk_ne hbox hgs (by decide))).trans hbox)
          have HQ3 := Aside0.mk (show w3.cell? ⟨gw, 5, none⟩ = some (.slice (some ⟨gs, 0, none⟩) ns cs) ∧ w3.cell? ⟨B, 0, none⟩ = some (.int .i64 (k : Int)) ∧ w3.cell? ⟨B, 1, none⟩ = some (.int .i64 hd) from ⟨(blk_cell HW3.out.hW 5).trans rfl, (blk_cell hbox 0).trans rfl, (blk_cell hbox 1).trans rfl⟩)
          have HQ4 := Aside0.mk (show (w3.setCell ⟨gs, k, none⟩ (.int .i64 hd)).cell? ⟨gw, 5, none⟩ = some (.slice (some ⟨gs, 0, none⟩) ns cs) ∧ (w3.setCell ⟨gs, k, none⟩ (.int .i64 hd)).cell? ⟨B, 0, none⟩ = some (.int .i64 (k : Int)) ∧ (w3.setCell ⟨gs, k, none⟩ (.int .i64 hd)).cell? ⟨B, 1, none⟩ = some (.int .i64 hd) from ⟨(blk_cell hw4.hW 5).trans rfl, (blk_cell HX4.out 0).trans rfl, (blk_cell HX4.out 1).trans rfl⟩)
          have HW4 := Aside0.mk hw4
          have HB4 := Aside0.mk (HB3.out.trans hb4)
          have hcw : w3.cell? ⟨gs, k, none⟩ = some (.int .i64 (rdOf 0 s.sl (k : Int))) := (Kd.R_celln 0 HW3.out.hS (k : Int) (by omega) (by omega)).1
          generalize rdOf 0 s.sl (k : Int) = zk at hcw
          clear hw4 hb4 hgs hbox HB3 HX4
          have hk0 : (0 : Int) ≤ (k : Int) := Int.natCast_nonneg k
          have hk1 : (k : Int) < (ns : Int) := by omega
          go_region_held3 (fun W => W.cell? ⟨gw, 5, none⟩ = some (.slice (some ⟨gs, 0, none⟩) ns cs) ∧ W.cell? ⟨B, 0, none⟩ = some (.int .i64 (k : Int)) ∧ W.cell? ⟨B, 1, none⟩ = some (.int .i64 hd)) (first | exact HQ3.out | exact HQ4.out) (fail)
          go_wp2_with fail
          go_roundg gk'
          case measure => omega
          case rel =>
            have hr := HR.out
            rw [run] at hr
            simp only [go1, Bool.false_eq_true, if_false] at hr
            have hfi := HFI.out
            exact ⟨{ s with sl := s.sl.set k hd }, J, _, _, vb, ⟨HW4.out.keep (fun _ _ => rfl)⟩, ⟨⟨by rw [List.length_set]; exact hfi.sl, hfi.small, hfi.steps, by have := hfi.jobs; simp only [List.length_cons] at this; simp only; omega, fun j hj => hfi.fit j (List.mem_cons_of_mem _ hj)⟩⟩, ⟨hr⟩, ⟨HB4.out.drew⟩⟩
        | visit p q =>
          unfold jobVal at hcj
          have hta := ta_visit (p : Int) q
          have hta2 := ta_other (p : Int) q
          obtain ⟨s2, J2, b2, h1, h2, h3⟩ := run_adv (mvP l t) (t.size + 1) long (gk' + 1) HR.out
          have hfit := HFI.out.fit _ List.mem_cons_self
          have HS2 := Aside0.mk (show (wr.setCell ⟨gw, 4, none⟩ (.slice (some ⟨gj, 0, none⟩) n cj)).heap.size = wr.heap.size from by simp [World.setCell])
          have HA1 := Aside0.mk h1
          have HA2 := Aside0.mk h2
          have HA3 := Aside0.mk h3
          have HFT := Aside0.mk (show p < l.length ∧ q < t.size + 1 from hfit)
          clear h1 h2 h3 hfit
          go_wp2_with fail
          clear e4 f4 hcj hta hta2 q0 q1 q2 q3 q4 HW
          generalize wr.setCell ⟨gw, 4, none⟩ (.slice (some ⟨gj, 0, none⟩) n cj) = w2 at *
          have hal : Below w2.heap.size w2 (w2.alloc (.cells #[.int .i64 (p : Int), .int .i64 (q : Int)] 101)) := (Below.refl _ w2).alloc (Nat.le_refl _) _
          have HW3 := Aside0.mk (HW2.out.below hal)
          have HB3 := Aside0.mk (HB2.out.trans (hal.mono (Nat.le_trans HBS.out (Nat.le_of_eq HS2.out.symm))))
          have HBS3 := Aside0.mk (Nat.le_trans (Nat.le_trans HBS.out (Nat.le_of_eq HS2.out.symm)) hal.size)
          clear hal
          generalize w2.alloc (.cells #[.int .i64 (p : Int), .int .i64 (q : Int)] 101) = w3 at *
          have HJ3 := Aside0.mk (show J.length ≤ s.S.length from by have := HFI.out.jobs; simp only [List.length_cons] at this; omega)
          refine (advance_at HP.out t long HGC.out HSZ.out (gk' + 1) HW3.out (HK.out.stay HGC.out HB3.out) HBS3.out ⟨HFT.out.1, Nat.le_of_lt_succ HFT.out.2, HFI.out.sl, HFI.out.small, HFI.out.steps, Nat.le_succ_of_le HJ3.out⟩ HA1.out).mono ?_
          rintro e w4 ⟨rfl, ⟨vj4, vs4, vb4, hw4⟩, hb4⟩
          have HW4 := Aside0.mk hw4
          have HB4 := Aside0.mk (HB3.out.trans hb4)
          have HF4 := Aside0.mk (adv_from (mvP_fits HP.out t) (mvP_caps HP.out t) (gk' + 1) HA1.out HFT.out.1 HFT.out.2 HFI.out.sl HFI.out.small HFI.out.steps (fun j hj => HFI.out.fit j (List.mem_cons_of_mem _ hj)) HJ3.out)
          clear hw4 hb4 HW3 HB3 HW2 HB2
          dsimp only at HW4 HF4 ⊢
          cases b2 with
          | false =>
            go_wp2_with fail
            obtain ⟨g, hg, hrg⟩ := HA3.out trivial
            have HRG := Aside0.mk hrg
            clear hrg
            go_roundg g
            case measure => omega
            case rel => exact ⟨s2, J2, vj4, vs4, vb4, HW4, ⟨HF4.out.1⟩, HRG, HB4⟩
          | true =>
            obtain ⟨hw5, hb5⟩ := wk_none HW4.out
            obtain ⟨A4, c4, rfl⟩ := Kd.R_slice HW4.out.hJ
            have e4 : w4.cell? ⟨gw, 4, none⟩ = some (.slice A4 J2.reverse.length c4) := (blk_cell HW4.out.hW 4).trans rfl
            have f4 := blk_frozen HW4.out.hW 4
            have HW5 := Aside0.mk hw5
            have HB5 := Aside0.mk (HB4.out.trans hb5)
            clear hw5 hb5
            generalize J2.reverse.length = n2 at e4
            go_wp2_with fail
            go_end0
            rw [HPO.out, HA2.out trivial]
            exact ⟨rfl, ⟨_, _, _, HW5.out⟩, ⟨HF4.out.1.sl, HF4.out.1.small, HF4.out.1.steps⟩, HB5.out⟩
end Go.Proofs.YtjajehjhonabdaaX
