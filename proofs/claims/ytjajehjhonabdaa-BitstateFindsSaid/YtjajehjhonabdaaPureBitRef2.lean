/- BitRef2: what the document's search finds, walked, the second half; no condition. -/
import Derived.Test.YtjajehjhonabdaaPureBitRef
namespace Go.Proofs.Ytjajehjhonabdaa.Pure
open Go.RowKit Go.Proofs.Ytjajehjhonabdaa.HBitstateFinds Go.Proofs.YtjajehjhonabdaaW.PrintWords Go.Proofs.YtjajehjhonabdaaW.PrintLast Go.Proofs.YtjajehjhonabdaaW.PrintMore
open Go.Proofs.YtjajehjhonabdaaX
open Bit
set_option linter.unusedVariables false
set_option linter.unusedSimpArgs false
theorem al_oldR {w : World} {o x : Obj} {k : Nat} (h : w.heap[k]? = some x) : (w.alloc o).heap[k]? = some x := (((Below.refl _ w).alloc (Nat.le_refl _) o).block _ (blk_lt h)).trans h
theorem info_bool : (Try.prog.info? 4).map (fun i => (i.zero, i.size, i.bytes)) = some (some (.bool false), 1, 1) := by kernel_rfl
theorem with_f {l : List Int} {i : Nat} (h : i < l.length) (hn : l.length < 17592186044416) (v : Int) : burinref13_with.f l (i : Int) v = some (l.set i v) := by
  unfold burinref13_with.f
  rw [if_pos (by simpa using hn)]
  simp only [Option.bind_some, List.nil_append]
  rw [if_pos (by omega), if_pos (by omega), Int.toNat_natCast]
theorem SlotI.below {W W' : World} {v : Value} {sl : List Int} (h : SlotI W v sl) (hb : Below W.heap.size W W') : SlotI W' v sl := h.frame (FrameR.below hb)
theorem with_at {W w : World} {v : Value} {l : List Int} (h : SlotI W v l) (hb : Below W.heap.size W w) {i : Nat} (hi : i < l.length) (hn : l.length ≤ 64) (x : Int) : Calls Try.prog 72 #[v, .int .i64 i, .int .i64 x] w fun e w' => ∃ v0, e = .returned v0 ∧ Kd.R (Kd.int .i64) 3 w' w.heap.size (fun _ => True) v0 (l.set i x) ∧ Below w.heap.size w w' := by
  obtain ⟨A, c, rfl, h1, h2, _⟩ := h.below hb
  exact burinref13_with.calls A c l (i : Int) x _ w h2 h1 (with_f hi (by omega) x)
theorem pick_cur {long : Bool} {a : Nat} {ws : Ways} {x : List Int} {cur : Nat × List Int} (hx : pick long a ws = some x) (h1 : long = true → bestW ws none = some cur) (h2 : long = false → ws.head? = some cur) : x = (cur.2.set 0 (a : Int)).set 1 (cur.1 : Int) := by
  unfold pick at hx
  cases long with
  | true => rw [if_pos rfl, h1 rfl] at hx; exact (Option.some.inj hx).symm
  | false => rw [if_neg (by decide), h2 rfl] at hx; exact (Option.some.inj hx).symm
def FoundPost (W : World) (x : List Int) (e : Ending) (W' : World) : Prop := ∃ v, e = .returned (.agg #[.bool true, v]) ∧ Kd.R (Kd.int .i64) 3 W' W.heap.size (fun _ => True) v x ∧ Below W.heap.size W W'
set_option maxHeartbeats 4000000 in
set_option maxRecDepth 20000 in
theorem found_at {W : World} {base : Nat} {Aw : Option Addr} {cw : Nat} {zs : List WV} {ws : Ways} (hR : Kd.R kWay 136 W base (fun _ => True) (.slice Aw zs.length cw) zs) (hZ : WaysOk W zs ws) (hn : ws.length ≤ 262144) (hne : ws ≠ []) (hlen : ∀ w ∈ ws, 2 ≤ w.2.length ∧ w.2.length ≤ 64) (a : Nat) (long : Bool) {x : List Int} (hx : pick long a ws = some x) :
    Calls Try.prog 43 #[.slice Aw zs.length cw, .int .i64 a, .bool long] W (FoundPost W x) := by
  have HPO := Aside0.mk (show FoundPost W x = fun e W' => ∃ v, e = .returned (.agg #[.bool true, v]) ∧ Kd.R (Kd.int .i64) 3 W' W.heap.size (fun _ => True) v x ∧ Below W.heap.size W W' from rfl)
  generalize FoundPost W x = PO at HPO ⊢
  have hzl := hZ.len
  obtain ⟨n, hnz⟩ : ∃ n, zs.length = n := ⟨_, rfl⟩
  have hpos : 0 < n := by
    rw [← hnz, hzl]
    exact List.length_pos_iff.2 hne
  obtain ⟨g, c, hform, -, hglt, -⟩ := Kd.R_form hR (by omega)
  injection hform with hf1 _ _
  subst hf1
  have HAT := Aside0.mk (fun (i : Nat) (hi : i < n) => show W.cell? ⟨g, i * 2, none⟩ = some (.int .i64 ((ws.getD i (0, [])).1 : Int)) ∧ ∃ s, W.cell? ⟨g, i * 2 + 1, none⟩ = some (sV s) ∧ SlotI W (sV s) (ws.getD i (0, [])).2 from by
    obtain ⟨ad, cs, had, hcl, hK, hcell⟩ := ReadsRow.get_ (Kd.R_reads' hR).2.2 (0, none, 0, 0) (i : Int) (by omega) (by omega)
    obtain rfl := (Option.some.inj had).symm
    have hK' := kWay_K hK
    subst hK'
    have h0 := hcell 0 _ rfl
    have h1 := hcell 1 _ rfl
    rw [Int.toNat_natCast, add_plain] at h0 h1
    have hat := hZ.at i (by omega)
    refine ⟨?_, _, h1, hat.2⟩
    rw [← hat.1]
    exact h0)
  have HLEN := Aside0.mk (fun (i : Nat) (hi : i < n) => hlen (ws.getD i (0, [])) (by rw [List.getD_eq_getElem?_getD, List.getElem?_eq_getElem (by omega)]; exact List.getElem_mem _))
  have HNW := Aside0.mk (show n = ws.length by omega)
  have HNB := Aside0.mk (show n ≤ 262144 by omega)
  have HG := Aside0.mk hglt
  have HX := Aside0.mk hx
  rw [hnz]
  clear hR hZ hn hne hlen hx hzl hnz hglt
  obtain ⟨k0, s0, k1, hs0⟩ := HAT.out 0 hpos
  have HS0 := Aside0.mk hs0
  rw [Nat.zero_mul] at k0 k1
  rw [Nat.zero_add] at k1
  have hposI : (0 : Int) < (n : Int) := by omega
  obtain ⟨e0, he0⟩ : ∃ e0, (ws.getD 0 (0, [])).1 = e0 := ⟨_, rfl⟩
  rw [he0] at k0
  have HE0 := Aside0.mk he0
  clear he0 hs0
  unfold sV at k1
  go_enter Try.func43, Try.ntmps43
  have ka0 : ∀ o, (W.alloc o).cell? ⟨g, 0, none⟩ = some (.int .i64 (e0 : Int)) := fun o => (World.cell?_alloc_lt W o ⟨g, 0, none⟩ HG.out).trans k0
  have ka1 : ∀ o, (W.alloc o).cell? ⟨g, 1, none⟩ = some (.slice s0.1 s0.2.1 s0.2.2) := fun o => (World.cell?_alloc_lt W o ⟨g, 1, none⟩ HG.out).trans k1
  go_wp2_with fail
  clear ka0 ka1
  have hal := ((Below.refl W.heap.size W).alloc (Nat.le_refl _) (.cells #[.bool false, .slice none 0 0] 34)).alloc (by simp) (.cells #[.int .i64 (e0 : Int), .slice s0.1 s0.2.1 s0.2.2] 136)
  have hF := al_oldR (o := .cells #[.int .i64 (e0 : Int), .slice s0.1 s0.2.1 s0.2.2] 136) (heap_alloc_last W (.cells #[.bool false, .slice none 0 0] 34))
  have hD : ((W.alloc (.cells #[.bool false, .slice none 0 0] 34)).alloc (.cells #[.int .i64 (e0 : Int), .slice s0.1 s0.2.1 s0.2.2] 136)).heap[W.heap.size + 1]? = some (.cells #[.int .i64 (e0 : Int), .slice s0.1 s0.2.1 s0.2.2] 136 (0, 0)) := heap_at (by simp)
  generalize (W.alloc (.cells #[.bool false, .slice none 0 0] 34)).alloc (.cells #[.int .i64 (e0 : Int), .slice s0.1 s0.2.1 s0.2.2] 136) = w2 at hal hF hD ⊢
  have HB := Aside0.mk hal
  have HF := Aside0.mk hF
  have HD := Aside0.mk hD
  have hcur : ws.getD 0 (0, []) = (e0, (ws.getD 0 (0, [])).2) := by rw [← HE0.out]
  have HI := Aside0.mk (show (long = true → bestW (ws.drop 0) (some (ws.getD 0 (0, []))) = bestW ws none) ∧ (long = false → ws.head? = some (ws.getD 0 (0, []))) from by
    have : 0 < ws.length := by rw [← HNW.out]; exact hpos
    cases ws with
    | nil => cases this
    | cons w0 t0 =>
      refine ⟨fun _ => ?_, fun _ => rfl⟩
      show bestW t0 (some (if w0.1 < w0.1 then w0 else w0)) = bestW t0 (some w0)
      rw [if_neg (Nat.lt_irrefl _)])
  have HL0 := Aside0.mk (HLEN.out 0 hpos)
  rw [hcur] at HI HL0 HS0
  generalize (ws.getD 0 (0, [])).2 = c0 at HI HL0 HS0
  clear hal hF hD k0 k1 hcur
  go_loopg [8] (n + 1) (fun gh s8 wr => ∃ (i : Nat) (cur : Nat × List Int) (s : Option Addr × Nat × Nat), s8 = .int .i64 i ∧ i ≤ n ∧ n - i ≤ gh ∧ (long = false → i = 0) ∧ Aside0 (wr.heap[W.heap.size + 1]? = some (.cells #[.int .i64 (cur.1 : Int), .slice s.1 s.2.1 s.2.2] 136 (0, 0))) ∧ Aside0 (wr.heap[W.heap.size]? = some (.cells #[.bool false, .slice none 0 0] 34 (0, 0))) ∧ Aside0 (SlotI W (sV s) cur.2) ∧ Aside0 (2 ≤ cur.2.length ∧ cur.2.length ≤ 64) ∧ Aside0 ((long = true → bestW (ws.drop i) (some cur) = bestW ws none) ∧ (long = false → ws.head? = some cur)) ∧ Aside0 (Below W.heap.size W wr))
  case atStart => exact ⟨0, (e0, c0), s0, rfl, by omega, by omega, fun _ => rfl, HD, HF, HS0, HL0, HI, HB⟩
  case round =>
    clear HD HF HS0 HL0 HI HB HE0
    obtain ⟨i, ⟨ce, cl⟩, s, rfl, hi, hgh, hli, HD, HF, HS, HL, HI, HB⟩ := hrel
    have hD0 : wr.cell? ⟨W.heap.size + 1, 0, none⟩ = some (.int .i64 (ce : Int)) := (blk_cell HD.out 0).trans rfl
    have hD1 : wr.cell? ⟨W.heap.size + 1, 1, none⟩ = some (.slice s.1 s.2.1 s.2.2) := (blk_cell HD.out 1).trans rfl
    go_upto_region 3 with fail
    go_cut [18] (fun s18 wc => s18 = .bool (decide (i < n) && long) ∧ wr = wc)
    case first =>
      by_cases g1 : i < n
      · have q1 : ((i : Int) < (n : Int)) = True := eq_true (by omega)
        go_wp2_with fail
        go_meet
        case rel => exact ⟨by simp [g1], rfl⟩
      · have q1 : ((i : Int) < (n : Int)) = False := eq_false (by omega)
        go_wp2_with fail
        go_meet
        case rel => exact ⟨by simp [g1], rfl⟩
    case rest =>
      obtain ⟨rfl, rfl⟩ := hcut
      by_cases hgo : i < n ∧ long = true
      · obtain ⟨hlt, rfl⟩ := hgo
        have hbool : (decide (i < n) && true) = true := by simp [hlt]
        rw [hbool]
        obtain ⟨k0, si, k1, hsi⟩ := HAT.out i hlt
        have ki0 : wr.cell? ⟨g, i * 2, none⟩ = some (.int .i64 ((ws.getD i (0, [])).1 : Int)) := (HB.out.cell (p := ⟨g, i * 2, none⟩) HG.out).trans k0
        have ki1 : wr.cell? ⟨g, i * 2 + 1, none⟩ = some (.slice si.1 si.2.1 si.2.2) := (HB.out.cell (p := ⟨g, i * 2 + 1, none⟩) HG.out).trans k1
        have HKI := Aside0.mk (And.intro ki0 ki1)
        have HSI := Aside0.mk hsi
        have HLI := Aside0.mk (HLEN.out i hlt)
        have hdrop : ws.drop i = ws.getD i (0, []) :: ws.drop (i + 1) := by
          rw [List.drop_eq_getElem_cons (by rw [← HNW.out]; exact hlt), List.getD_eq_getElem?_getD, List.getElem?_eq_getElem (by rw [← HNW.out]; exact hlt)]
          rfl
        have HST := Aside0.mk (show bestW (ws.drop (i + 1)) (some (if ce < (ws.getD i (0, [])).1 then ws.getD i (0, []) else (ce, cl))) = bestW ws none from by
          have := HI.out.1 rfl
          rw [hdrop] at this
          exact this)
        have HLT := Aside0.mk hlt
        have q2 : (0 : Int) ≤ (i : Int) := by omega
        have q3 : (i : Int) < (n : Int) := by omega
        clear k0 k1 hsi hdrop hbool HI hlt
        generalize ws.getD i (0, []) = wi at ki0 HKI HSI HLI HST
        obtain ⟨we, wl⟩ := wi
        go_upto_region 5 with fail
        by_cases g5 : ce < we
        · have d5 : decide ((ce : Int) < (we : Int)) = true := decide_eq_true (by omega)
          have d6 : decide (ce < we) = true := decide_eq_true g5
          have HG5 := Aside0.mk g5
          clear g5
          go_quiet (fail)
          have HDD := Aside0.mk (show (wr.drewN nq).heap[W.heap.size + 1]? = some (.cells #[.int .i64 (ce : Int), .slice s.1 s.2.1 s.2.2] 136 (0, 0)) from HD.out)
          have ff0 := blk_frozen HDD.out 0
          have ff1 := blk_frozen HDD.out 1
          have ki0 : (wr.drewN nq).cell? ⟨g, i * 2, none⟩ = some (.int .i64 (we : Int)) := HKI.out.1
          have ki1 : (wr.drewN nq).cell? ⟨g, i * 2 + 1, none⟩ = some (.slice si.1 si.2.1 si.2.2) := HKI.out.2
          have hD0 : (wr.drewN nq).cell? ⟨W.heap.size + 1, 0, none⟩ = some (.int .i64 (ce : Int)) := (blk_cell HDD.out 0).trans rfl
          have hD1 : (wr.drewN nq).cell? ⟨W.heap.size + 1, 1, none⟩ = some (.slice s.1 s.2.1 s.2.2) := (blk_cell HDD.out 1).trans rfl
          have HFF := Aside0.mk (show (wr.drewN nq).heap[W.heap.size]? = some (.cells #[.bool false, .slice none 0 0] 34 (0, 0)) from HF.out)
          have HBB := Aside0.mk (pw_below_drewN HB.out nq)
          generalize wr.drewN nq = wq at *
          have hx2 : i ≤ 262144 := by have := HNB.out; omega
          go_wp2_with fail
          have hFn : ((wq.setCell ⟨W.heap.size + 1, 0, none⟩ (.int .i64 (we : Int))).setCell ⟨W.heap.size + 1, 1, none⟩ (.slice si.1 si.2.1 si.2.2)).heap[W.heap.size]? = wq.heap[W.heap.size]? := (Below.heap_setCell _ _ _ _ (show W.heap.size ≠ W.heap.size + 1 by omega)).trans (Below.heap_setCell _ _ _ _ (show W.heap.size ≠ W.heap.size + 1 by omega))
          have HBN := Aside0.mk (HBB.out.setCell (p := ⟨W.heap.size + 1, 0, none⟩) (by show W.heap.size ≤ W.heap.size + 1; omega) (.int .i64 (we : Int)) |>.setCell (p := ⟨W.heap.size + 1, 1, none⟩) (by show W.heap.size ≤ W.heap.size + 1; omega) (.slice si.1 si.2.1 si.2.2))
          go_roundg (n - (i + 1))
          case measure => have := HLT.out; omega
          case rel => exact ⟨i + 1, (we, wl), si, rfl, HLT.out, by omega, fun h => (by cases h), ⟨blk_put (blk_put HDD.out 0 _ rfl) 1 _ rfl⟩, ⟨hFn.trans HFF.out⟩, HSI, HLI, ⟨⟨fun _ => (by have := HST.out; rw [if_pos HG5.out] at this; exact this), fun h => by cases h⟩⟩, HBN⟩
        · have d5 : decide ((ce : Int) < (we : Int)) = false := decide_eq_false (by omega)
          have d6 : decide (ce < we) = false := decide_eq_false g5
          have HG5 := Aside0.mk g5
          clear g5
          go_quiet (fail)
          have hx2 : i ≤ 262144 := by have := HNB.out; omega
          go_wp2_with fail
          go_roundg (n - (i + 1))
          case measure => have := HLT.out; omega
          case rel => exact ⟨i + 1, (ce, cl), s, rfl, HLT.out, by omega, fun h => (by cases h), ⟨HD.out⟩, ⟨HF.out⟩, HS, HL, ⟨⟨fun _ => (by have := HST.out; rw [if_neg HG5.out] at this; exact this), fun h => by cases h⟩⟩, ⟨pw_below_drewN HB.out _⟩⟩
      · have hbool : (decide (i < n) && long) = false := by
          rw [Bool.eq_false_iff]
          intro hh
          simp only [Bool.and_eq_true, decide_eq_true_eq] at hh
          exact hgo hh
        rw [hbool]
        have HXE := Aside0.mk (show x = (cl.set 0 (a : Int)).set 1 (ce : Int) from pick_cur (cur := (ce, cl)) HX.out (fun h => by
          have := HI.out.1 h
          rw [List.drop_eq_nil_of_le (by have := HNW.out; have : ¬ i < n := fun hh => hgo ⟨hh, h⟩; omega)] at this
          exact this.symm) (fun h => HI.out.2 h))
        clear hbool hgo HI
        go_upto_region 7 with fail
        have HQ := Aside0.mk (And.intro hD1 hD0)
        have HDL := Aside0.mk (blk_lt HD.out)
        have HFL := Aside0.mk (blk_lt HF.out)
        have HWI := Aside0.mk (fun (w : World) (hb : Below W.heap.size W w) => with_at (i := 0) HS.out hb (by have := HL.out; omega) HL.out.2 (a : Int))
        unfold sV at HWI
        clear hD0 hD1
        go_region_held3 (fun w => w.cell? ⟨W.heap.size + 1, 1, none⟩ = some (.slice s.1 s.2.1 s.2.2) ∧ w.cell? ⟨W.heap.size + 1, 0, none⟩ = some (.int .i64 (ce : Int))) (first | exact HQ.out | exact HQ5.out | exact HQ6.out | exact And.intro ((World.cell?_of_block (a := ⟨W.heap.size + 1, 1, none⟩) ((Below.heap_setCell _ _ _ _ (show W.heap.size + 1 ≠ W.heap.size by omega)).trans (Below.heap_setCell _ _ _ _ (show W.heap.size + 1 ≠ W.heap.size by omega)))).trans HQ6.out.1) ((World.cell?_of_block (a := ⟨W.heap.size + 1, 0, none⟩) ((Below.heap_setCell _ _ _ _ (show W.heap.size + 1 ≠ W.heap.size by omega)).trans (Below.heap_setCell _ _ _ _ (show W.heap.size + 1 ≠ W.heap.size by omega)))).trans HQ6.out.2)) (first | ((go_at_call 72; refine (with_at (i := 1) HS5.out (by repeat (first | exact Below.refl _ _ | apply pw_below_drewN | apply below_drew1)) (by rw [List.length_set]; have := HL.out; omega) (by rw [List.length_set]; exact HL.out.2) (ce : Int)).mono ?_; rintro e w6 ⟨v6, rfl, hR6, hb6⟩; have HR6 := Aside0.mk hR6; have HB56 := Aside0.mk (show Below w5.heap.size w5 w6 from by (refine Below.trans (?_ : Below w5.heap.size w5 _) hb6; repeat (first | exact Below.refl _ _ | apply pw_below_drewN | apply below_drew1))); have HQ6 := Aside0.mk (show w6.cell? ⟨W.heap.size + 1, 1, none⟩ = some (.slice s.1 s.2.1 s.2.2) ∧ w6.cell? ⟨W.heap.size + 1, 0, none⟩ = some (.int .i64 (ce : Int)) from And.intro ((HB56.out.cell (p := ⟨W.heap.size + 1, 1, none⟩) (Nat.lt_of_lt_of_le HDL.out HBr5.out.size)).trans HQ5.out.1) ((HB56.out.cell (p := ⟨W.heap.size + 1, 0, none⟩) (Nat.lt_of_lt_of_le HDL.out HBr5.out.size)).trans HQ5.out.2)); have HF6 := Aside0.mk (show w6.heap[W.heap.size]? = some (.cells #[.bool false, .slice none 0 0] 34 (0, 0)) from (HB56.out.block _ (Nat.lt_of_lt_of_le HFL.out HBr5.out.size)).trans ((HBr5.out.block _ HFL.out).trans HF.out)); have HB6 := Aside0.mk (show Below W.heap.size W w6 from (HB.out.trans (HBr5.out.mono HB.out.size)).trans (HB56.out.mono (Nat.le_trans HB.out.size HBr5.out.size))); obtain ⟨A6, c6, e6⟩ := Kd.R_slice hR6; obtain ⟨n6, hn6⟩ : ∃ n6, ((cl.set 0 (a : Int)).set 1 (ce : Int)).length = n6 := ⟨_, rfl⟩; rw [hn6] at e6; subst e6; have k6 := (blk_cell HF6.out 0).trans rfl; have k7 := (blk_cell HF6.out 1).trans rfl; have f6 := blk_frozen HF6.out 0; have f7 := blk_frozen HF6.out 1; clear hR6 hb6)) | ((go_at_call 72; refine (HWI.out _ (by repeat (first | exact HB.out | apply pw_below_drewN | apply below_drew1))).mono ?_; rintro e w5 ⟨v5, rfl, hR5, hb5⟩; have HBr5 := Aside0.mk (show Below wr.heap.size wr w5 from by (refine Below.trans (?_ : Below wr.heap.size wr _) hb5; repeat (first | exact Below.refl _ _ | apply pw_below_drewN | apply below_drew1))); have HS5 := Aside0.mk (slot_of_R hR5); have HQ5 := Aside0.mk (show w5.cell? ⟨W.heap.size + 1, 1, none⟩ = some (.slice s.1 s.2.1 s.2.2) ∧ w5.cell? ⟨W.heap.size + 1, 0, none⟩ = some (.int .i64 (ce : Int)) from And.intro ((HBr5.out.cell (p := ⟨W.heap.size + 1, 1, none⟩) HDL.out).trans HQ.out.1) ((HBr5.out.cell (p := ⟨W.heap.size + 1, 0, none⟩) HDL.out).trans HQ.out.2)); clear hR5 hb5)))
        go_wp2_with fail
        refine bodyPost_ret (v := .agg #[.bool true, .slice A6 n6 c6]) (results_single (v := .agg #[.bool true, .slice A6 n6 c6]) rfl (Vals.cell W.heap.size 34 #[.bool true, .slice A6 n6 c6] (0, 0) _ rfl (blk_put (blk_put HF6.out 0 _ rfl) 1 _ rfl) Try.underlying34 rfl (by kernel_rfl) .nil)) rfl ?_
        rw [HPO.out]
        have hne : ∀ k, (Value.slice A6 n6 c6).ownBlock = some k → k ≠ W.heap.size := fun k hk e => by
          have h1 := Kd.R_base HR6.out k hk
          have h2 := HBr5.out.size
          have h3 := HFL.out
          omega
        refine ⟨_, rfl, ?_, below_set (below_set HB6.out (Nat.le_refl _)) (Nat.le_refl _)⟩
        rw [HXE.out]
        exact Kd.R_lower (R_stay HR6.out (fun k hk => (Below.heap_setCell _ _ _ _ (hne k hk)).trans (Below.heap_setCell _ _ _ _ (hne k hk))) (fun _ _ => trivial)) (Nat.le_trans HB.out.size HBr5.out.size)
theorem make_bools (n : Nat) (hn : n ≤ 1000000) (w : World) : (Instr.makeSlice 107 (.int .i64 n) (.int .i64 n)).run Try.prog w = .ok (.slice (some ⟨w.heap.size, 0, none⟩) n n) (w.alloc (.cells (boolCells (List.replicate n false)) 4)) := by
  obtain ⟨i0, hi, hz0, hz1, hz2⟩ := info_parts info_bool
  have h := run_make (P := Try.prog) w 107 4 i0 (.bool false) Try.underlying107 hi hz0 .i64 .i64 (n : Int) (n : Int) (by omega) (by omega) (by rw [hz2]; omega) (by omega)
  have hc : madeCells (Value.bool false).cells n = boolCells (List.replicate n false) := by
    apply Array.ext'
    unfold boolCells madeCells
    apply List.ext_getElem
    · simp
    · intro i h1 h2
      simp [Value.cells, Nat.mod_one]
  rw [h, Int.toNat_natCast, hz1, Nat.mul_one, hc]
theorem blank_f : (List.range 65).all (fun n => burinref13_Blank.f 100 (n : Int) == some (List.replicate n (-1))) = true := by decide +kernel
theorem blank_at {n : Nat} (hn : n ≤ 64) (w : World) : Calls Try.prog 42 #[.int .i64 n] w fun e w' => ∃ v0_ : Value, e = .returned (v0_) ∧ Kd.R (Kd.int .i64) 3 w' w.heap.size (fun _ => True) v0_ (List.replicate n (-1)) ∧ Below w.heap.size w w' := by
  have h := List.all_eq_true.1 blank_f n (List.mem_range.2 (by omega))
  rw [beq_iff_eq] at h
  exact burinref13_Blank.calls 100 (n : Int) _ w h
def MatchPost (W : World) (l : List I5) (t : ByteArray) (a0 b from_ : Int) (anch long : Bool) (e : Ending) (w' : World) : Prop :=
  Below W.heap.size W w' ∧
  (((from_ < 0 ∨ (t.size : Int) < from_) ∧ e = .returned (.tuple #[.agg #[.bool false, .slice none 0 0], .int .i64 1])) ∨
   ((0 ≤ from_ ∧ from_ ≤ (t.size : Int)) ∧
     ((searchV l t a0 b from_ anch long = none ∧ e = .returned (.tuple #[.agg #[.bool false, .slice none 0 0], .int .i64 0])) ∨
     ∃ x v, searchV l t a0 b from_ anch long = some x ∧ e = .returned (.tuple #[.agg #[.bool true, v], .int .i64 0]) ∧ Kd.R (Kd.int .i64) 3 w' W.heap.size (fun _ => True) v x)))
theorem dfs_lens {mv : Nat → Nat → Mv} {W n : Nat} : ∀ (f : Nat) {S ws pc a sl r}, dfs mv W f S ws pc a sl = some r → sl.length = n → (∀ w ∈ ws, w.2.length = n) → ∀ w ∈ r.2, w.2.length = n
  | 0, _, _, _, _, _, _, h, _, _ => by cases h
  | f + 1, S, ws, pc, a, sl, r, h, hl, hw => by
    unfold dfs at h
    split at h
    · cases h; exact hw
    · cases hm : mv pc a with
      | stop => rw [hm] at h; cases h; exact hw
      | one p q => rw [hm] at h; exact dfs_lens f h hl hw
      | cap c p q => rw [hm] at h; exact dfs_lens f h (by rw [List.length_set]; exact hl) hw
      | done =>
        rw [hm] at h
        cases h
        show ∀ w ∈ addWay ws a sl, w.2.length = n
        unfold addWay
        split
        · exact hw
        · intro w hm
          rcases List.mem_append.1 hm with h1 | h1
          · exact hw w h1
          · rw [List.mem_singleton.1 h1]; exact hl
      | two p q c =>
        rw [hm] at h
        obtain ⟨x, hx, h'⟩ := Option.bind_eq_some_iff.1 h
        exact dfs_lens f h' hl (dfs_lens f hx hl hw)
theorem pick_some {long : Bool} {a : Nat} {ws : Ways} (h : ws ≠ []) : ∃ x, pick long a ws = some x := by
  unfold pick
  cases ws with
  | nil => exact absurd rfl h
  | cons w t =>
    cases long with
    | true =>
      obtain ⟨x, hx, _⟩ := bestW_max (w :: t) none w (.inl List.mem_cons_self)
      rw [if_pos rfl, hx]
      exact ⟨_, rfl⟩
    | false => exact ⟨_, rfl⟩
theorem refI_made {w4 : World} {base : Nat} {A0 : Option Addr} {c0 : Nat} {l : List I5} {a0 b : Int} {t : ByteArray} {N : Nat} (hN : N = l.length * (t.size + 1)) (hb : base ≤ w4.heap.size) {w0 : World} (hC : Kd.C kIn w0 A0 l.length l) (h0 : w0.heap.size ≤ base) (hB : Below w0.heap.size w0 w4) :
    RefI ((w4.alloc (.cells (boolCells (List.replicate N false)) 4)).alloc (.cells #[.slice A0 l.length c0, .int .i64 a0, .int .i64 b, .string t, .slice none 0 0, .slice (some ⟨w4.heap.size, 0, none⟩) N N] 110)) base (w4.heap.size + 1) w4.heap.size A0 c0 l a0 b t (.slice none 0 0) (List.replicate N false) [] [] [] ∧
    Below w4.heap.size w4 ((w4.alloc (.cells (boolCells (List.replicate N false)) 4)).alloc (.cells #[.slice A0 l.length c0, .int .i64 a0, .int .i64 b, .string t, .slice none 0 0, .slice (some ⟨w4.heap.size, 0, none⟩) N N] 110)) := by
  have hbel := ((Below.refl w4.heap.size w4).alloc (Nat.le_refl _) (.cells (boolCells (List.replicate N false)) 4)).alloc (by simp) (.cells #[.slice A0 l.length c0, .int .i64 a0, .int .i64 b, .string t, .slice none 0 0, .slice (some ⟨w4.heap.size, 0, none⟩) N N] 110)
  refine ⟨⟨?_, al_oldR (heap_alloc_last w4 _), by omega, hb, by rw [List.length_replicate]; exact hN, fun k hk => ?_, Kd.R_nil _ _ _ _ _, trivial, ⟨w0, hC, h0, hB.trans (hbel.mono hB.size)⟩⟩, hbel⟩
  · rw [List.length_replicate]
    exact heap_at (by simp)
  · rw [List.length_replicate] at hk
    rw [List.getD_eq_getElem?_getD, List.getElem?_replicate, if_pos hk]
    simp
set_option maxHeartbeats 8000000 in
set_option maxRecDepth 20000 in
theorem match_ref {l : List I5} {a0 b : Int} (hP : ProgOk l a0 b) (t : ByteArray) (hsz : l.length * (t.size + 1) ≤ 262144) {A0 : Option Addr} {c0 : Nat} {W : World} (hC : Kd.C kIn W A0 l.length l) (from_ : Int) (anch long : Bool) :
    Calls Try.prog 23 #[.agg #[.slice A0 l.length c0, .int .i64 a0, .int .i64 b], askV t from_ anch long] W (MatchPost W l t a0 b from_ anch long) := by
  obtain ⟨w3, hw3⟩ : ∃ w3, w3 = ((W.alloc (.cells #[.slice A0 l.length c0, .int .i64 a0, .int .i64 b] 24)).alloc (.cells #[.string t, .int .i64 from_, .bool anch, .bool long] 26)).alloc (.cells #[.bool false, .slice none 0 0] 34) := ⟨_, rfl⟩
  have hb3 : Below W.heap.size W w3 := by rw [hw3]; exact (((Below.refl W.heap.size W).alloc (Nat.le_refl _) _).alloc (by simp) _).alloc (by simp; omega) _
  have HPR := Aside0.mk (show w3.heap[W.heap.size]? = some (.cells #[.slice A0 l.length c0, .int .i64 a0, .int .i64 b] 24 (0, 0)) from by rw [hw3]; exact al_oldR (al_oldR (heap_alloc_last W _)))
  have HX := Aside0.mk (show w3.heap[W.heap.size + 1]? = some (.cells #[.string t, .int .i64 from_, .bool anch, .bool long] 26 (0, 0)) from by rw [hw3]; exact al_oldR (heap_at (by simp)))
  have HF := Aside0.mk (show w3.heap[W.heap.size + 1 + 1]? = some (.cells #[.bool false, .slice none 0 0] 34 (0, 0)) from by rw [hw3]; exact heap_at (by simp))
  have HPO := Aside0.mk (show MatchPost W l t a0 b from_ anch long = fun e w' => Below W.heap.size W w' ∧ (((from_ < 0 ∨ (t.size : Int) < from_) ∧ e = .returned (.tuple #[.agg #[.bool false, .slice none 0 0], .int .i64 1])) ∨ ((0 ≤ from_ ∧ from_ ≤ (t.size : Int)) ∧ ((searchV l t a0 b from_ anch long = none ∧ e = .returned (.tuple #[.agg #[.bool false, .slice none 0 0], .int .i64 0])) ∨ ∃ x v, searchV l t a0 b from_ anch long = some x ∧ e = .returned (.tuple #[.agg #[.bool true, v], .int .i64 0]) ∧ Kd.R (Kd.int .i64) 3 w' W.heap.size (fun _ => True) v x))) from rfl)
  generalize MatchPost W l t a0 b from_ anch long = PO at HPO ⊢
  have hl := hP.len
  have hsl := hP.slots
  have hst := hP.start
  obtain ⟨nb, rfl⟩ := Int.eq_ofNat_of_zero_le (show 0 ≤ b by omega)
  obtain ⟨st, rfl⟩ := Int.eq_ofNat_of_zero_le hst.1
  have HNB := Aside0.mk (show 2 ≤ nb ∧ nb ≤ 64 by omega)
  have HST := Aside0.mk (show st < l.length by omega)
  have HL := Aside0.mk hl
  have HP := Aside0.mk hP
  have HSZ := Aside0.mk hsz
  have HC := Aside0.mk hC
  have HB3 := Aside0.mk hb3
  have HW3 := Aside0.mk hw3
  clear hl hsl hst hP hC hb3 hw3
  unfold askV
  by_cases hf : from_ < 0 ∨ (t.size : Int) < from_
  · obtain rfl := HW3.out
    by_cases c : from_ < 0
    · go_enter Try.func23, Try.ntmps23
      go_wp2_with fail
      refine bodyPost_ret (results_ct rfl _ _ (W.heap.size + 1 + 1) 34 #[.bool false, .slice none 0 0] (0, 0) _ rfl HF.out Try.underlying34 rfl (by kernel_rfl)) rfl ?_
      rw [HPO.out]
      exact ⟨HB3.out, .inl ⟨hf, rfl⟩⟩
    · have c1 : decide (from_ < 0) = false := decide_eq_false c
      have c2 : decide ((t.size : Int) < from_) = true := decide_eq_true (by omega)
      go_enter Try.func23, Try.ntmps23
      go_wp2_with fail
      refine bodyPost_ret (results_ct rfl _ _ (W.heap.size + 1 + 1) 34 #[.bool false, .slice none 0 0] (0, 0) _ rfl HF.out Try.underlying34 rfl (by kernel_rfl)) rfl ?_
      rw [HPO.out]
      exact ⟨HB3.out, .inl ⟨hf, rfl⟩⟩
  · obtain ⟨fr, rfl⟩ := Int.eq_ofNat_of_zero_le (show 0 ≤ from_ by omega)
    have HFR := Aside0.mk (show fr ≤ t.size by omega)
    obtain ⟨R, hR⟩ : ∃ R, searchV l t st nb fr anch long = R := ⟨_, rfl⟩
    have HRE := Aside0.mk (show R = findV (mvP l t) (t.size + 1) l.length st (List.replicate nb (-1)) long anch (t.size + 1 - fr) fr from by rw [← hR]; rfl)
    have HPO2 := Aside0.mk (show ∀ e w', Below W.heap.size W w' → ((R = none ∧ e = .returned (.tuple #[.agg #[.bool false, .slice none 0 0], .int .i64 0])) ∨ ∃ x v, R = some x ∧ e = .returned (.tuple #[.agg #[.bool true, v], .int .i64 0]) ∧ Kd.R (Kd.int .i64) 3 w' W.heap.size (fun _ => True) v x) → PO e w' from fun e w' h1 h2 => by
      rw [HPO.out]
      refine ⟨h1, .inr ⟨by omega, ?_⟩⟩
      rw [hR]
      exact h2)
    have c0 : decide ((fr : Int) < 0) = false := decide_eq_false (by omega)
    have c1 : decide ((t.size : Int) < (fr : Int)) = false := decide_eq_false (by omega)
    have c2 : decide (t.size < fr) = false := decide_eq_false (by omega)
    clear hf hR HPO
    go_enter Try.func23, Try.ntmps23
    go_upto_region 3 with fail
    rw [← HW3.out]
    clear c0 c1 c2 HW3
    obtain ⟨P, hPE⟩ : ∃ P, W.heap.size = P := ⟨_, rfl⟩
    have HPE := Aside0.mk hPE
    rw [hPE] at HPR HX HF ⊢
    clear hPE
    have x1 : w3.cell? ⟨P + 1, 1, none⟩ = some (.int .i64 (fr : Int)) := (blk_cell HX.out 1).trans rfl
    go_wp2_with fail
    clear x1
    go_loopg [6, 7] (t.size + 2) (fun gq s6 s7 wr => ∃ a : Nat, s6 = .int .i64 a ∧ fr ≤ a ∧ a ≤ t.size + 1 ∧ t.size + 2 - a ≤ gq ∧ Aside0 (R = findV (mvP l t) (t.size + 1) l.length st (List.replicate nb (-1)) long anch (t.size + 1 - a) a) ∧ Aside0 (Below (P + 3) w3 wr))
    case atStart => exact ⟨fr, rfl, Nat.le_refl _, by have := HFR.out; omega, by omega, HRE, ⟨Below.refl _ _⟩⟩
    case round =>
      clear HRE
      obtain ⟨a, rfl, hfa, has, hgq, HRE, HB⟩ := hrel
      have HPR' := Aside0.mk ((HB.out.block P (by omega)).trans HPR.out)
      have HX' := Aside0.mk ((HB.out.block (P + 1) (by omega)).trans HX.out)
      have HF' := Aside0.mk ((HB.out.block (P + 1 + 1) (by omega)).trans HF.out)
      have HBW := Aside0.mk (show Below W.heap.size W wr from HB3.out.trans (HB.out.mono (by have := HPE.out; omega)))
      have x0 : wr.cell? ⟨P + 1, 0, none⟩ = some (.string t) := (blk_cell HX'.out 0).trans rfl
      by_cases hlt : a ≤ t.size
      · have q1 : ((a : Int) ≤ (t.size : Int)) = True := eq_true (by omega)
        have HLT := Aside0.mk hlt
        go_upto_region 6 with fail
        clear x0 q1
        obtain ⟨N, hN⟩ : ∃ N, l.length * (t.size + 1) = N := ⟨_, rfl⟩
        have HN := Aside0.mk hN
        have hNb : N ≤ 262144 := by rw [← hN]; exact HSZ.out
        have htb : t.size ≤ 262144 := by have h1 := HL.out.1; have h5 : t.size + 1 ≤ l.length * (t.size + 1) := Nat.le_mul_of_pos_left _ (by omega); omega
        have m0 : IntKind.i64.wrap ((t.size : Int) + 1) = (t.size : Int) + 1 := by rw [IntKind.wrap_i64]; omega
        have m1 : IntKind.i64.wrap ((l.length : Int) * ((t.size : Int) + 1)) = (N : Int) := by rw [show (l.length : Int) * ((t.size : Int) + 1) = (N : Int) by rw [← hN]; simp, IntKind.wrap_i64]; omega
        have hmk := make_bools N (by omega)
        have hic : ∃ ic, boolCells (List.replicate N false) = ic := ⟨_, rfl⟩
        obtain ⟨ic, hic⟩ := hic
        rw [hic] at hmk
        have HIC := Aside0.mk hic
        clear hic hN
        have HQ := Aside0.mk (show wr.cell? ⟨P, 0, none⟩ = some (.slice A0 l.length c0) ∧ wr.cell? ⟨P, 1, none⟩ = some (.int .i64 (st : Int)) ∧ wr.cell? ⟨P, 2, none⟩ = some (.int .i64 (nb : Int)) ∧ wr.cell? ⟨P + 1, 0, none⟩ = some (.string t) from ⟨(blk_cell HPR'.out 0).trans rfl, (blk_cell HPR'.out 1).trans rfl, (blk_cell HPR'.out 2).trans rfl, (blk_cell HX'.out 0).trans rfl⟩)
        have HPL := Aside0.mk (blk_lt HPR'.out)
        have HXL := Aside0.mk (blk_lt HX'.out)
        have HFL := Aside0.mk (blk_lt HF'.out)
        go_region_held3 (fun w => w.cell? ⟨P, 0, none⟩ = some (.slice A0 l.length c0) ∧ w.cell? ⟨P, 1, none⟩ = some (.int .i64 (st : Int)) ∧ w.cell? ⟨P, 2, none⟩ = some (.int .i64 (nb : Int)) ∧ w.cell? ⟨P + 1, 0, none⟩ = some (.string t)) (first | exact HQ.out | (refine ⟨(Below.cell (B := wr.heap.size) (w := wr) (p := ⟨P, 0, none⟩) ?_ HPL.out).trans HQ.out.1, (Below.cell (B := wr.heap.size) (w := wr) (p := ⟨P, 1, none⟩) ?_ HPL.out).trans HQ.out.2.1, (Below.cell (B := wr.heap.size) (w := wr) (p := ⟨P, 2, none⟩) ?_ HPL.out).trans HQ.out.2.2.1, (Below.cell (B := wr.heap.size) (w := wr) (p := ⟨P + 1, 0, none⟩) ?_ HXL.out).trans HQ.out.2.2.2⟩ <;> (repeat (first | exact Below.refl _ _ | apply pw_below_drewN | apply below_drew1 | refine Below.alloc ?_ (by simp) _)))) (fail)
        obtain ⟨hI5, hb5⟩ := refI_made (c0 := c0) (a0 := (st : Int)) (b := (nb : Int)) (t := t) (w4 := wr) (N := N) HN.out.symm (show P + 3 ≤ wr.heap.size from HFL.out) HC.out (show W.heap.size ≤ P + 3 by have := HPE.out; omega) HBW.out
        rw [HIC.out] at hI5 hb5
        have HI5 := Aside0.mk (hI5.below (pw_below_drewN (Below.refl _ _) 1))
        have HB5 := Aside0.mk (pw_below_drewN hb5 1)
        change Exit.then _ _ _ _ (World.drewN _ 1)
        clear hI5 hb5 hmk HIC m0 m1
        generalize hWE : World.drewN ((wr.alloc (.cells ic 4)).alloc (.cells #[.slice A0 l.length c0, .int .i64 (st : Int), .int .i64 (nb : Int), .string t, .slice none 0 0, .slice (some ⟨wr.heap.size, 0, none⟩) N N] 110)) 1 = w5 at *
        clear hWE
        obtain ⟨S', hS'⟩ := ways_at (mvP_fits HP.out t) HST.out (show a < t.size + 1 by omega) (List.replicate nb (-1))
        have HLN := Aside0.mk (dfs_lens (n := nb) _ hS' (by simp) (fun w hw => by cases hw))
        have HKP := Aside0.mk (dfs_keep (mvP_fits HP.out t) _ hS' HST.out (show a < t.size + 1 by omega) (small_nil _) (Nat.le_refl _))
        have HDF := Aside0.mk hS'
        have HFD := Aside0.mk (show R = match pick long a (waysAt (mvP l t) (t.size + 1) l.length st (List.replicate nb (-1)) a) with
          | some x => some x
          | none => if anch = true then none else findV (mvP l t) (t.size + 1) l.length st (List.replicate nb (-1)) long anch (t.size + 1 - (a + 1)) (a + 1) from by
            rw [HRE.out, show t.size + 1 - a = (t.size + 1 - (a + 1)) + 1 by omega]
            rfl)
        clear hS'
        dsimp only at HLN HKP
        generalize waysAt (mvP l t) (t.size + 1) l.length st (List.replicate nb (-1)) a = ws at HLN HKP HDF HFD
        obtain ⟨gq, hgq⟩ : ∃ gq, wr.heap.size + 1 = gq := ⟨_, rfl⟩
        obtain ⟨gs, hgs⟩ : ∃ gs, wr.heap.size = gs := ⟨_, rfl⟩
        rw [hgq] at HI5 ⊢
        rw [hgs] at HI5
        clear hgq hgs
        have HPR5 := Aside0.mk (blk_below HPR'.out HB5.out)
        have HX5 := Aside0.mk (blk_below HX'.out HB5.out)
        have HF5 := Aside0.mk (blk_below HF'.out HB5.out)
        have HBB5 := Aside0.mk (show Below (P + 3) w3 w5 from HB.out.trans (HB5.out.mono HFL.out))
        have HQ5 := Aside0.mk (show w5.cell? ⟨P, 1, none⟩ = some (.int .i64 (st : Int)) ∧ w5.cell? ⟨P, 2, none⟩ = some (.int .i64 (nb : Int)) from ⟨(blk_cell HPR5.out 1).trans rfl, (blk_cell HPR5.out 2).trans rfl⟩)
        have HPL5 := Aside0.mk (blk_lt HPR5.out)
        clear HPR' HX' HF' HBW HB HQ HPL HXL HFL HB5
        go_upto_region 7 with fail
        go_region_held3 (fun w => w.cell? ⟨P, 1, none⟩ = some (.int .i64 (st : Int)) ∧ w.cell? ⟨P, 2, none⟩ = some (.int .i64 (nb : Int))) (first | exact HQ5.out | exact HQ6.out | exact HQ7.out) (first | ((go_at_call 42; refine (blank_at HNB.out.2 _).mono ?_; rintro e w6 ⟨v6, rfl, hR6, hb6⟩; have HB6 := Aside0.mk (show Below w5.heap.size w5 w6 from by (refine Below.trans (?_ : Below w5.heap.size w5 _) hb6; repeat (first | exact Below.refl _ _ | apply pw_below_drewN | apply below_drew1))); have HS6 := Aside0.mk (slot_of_R hR6); have HI6 := Aside0.mk (HI5.out.below HB6.out); have HQ6 := Aside0.mk (show w6.cell? ⟨P, 1, none⟩ = some (.int .i64 (st : Int)) ∧ w6.cell? ⟨P, 2, none⟩ = some (.int .i64 (nb : Int)) from And.intro ((HB6.out.cell (p := ⟨P, 1, none⟩) HPL5.out).trans HQ5.out.1) ((HB6.out.cell (p := ⟨P, 2, none⟩) HPL5.out).trans HQ5.out.2)); clear hR6 hb6)) | ((go_at_call 41; refine (go_ref HP.out t HSZ.out _ HDF.out (HI6.out.below (by repeat (first | exact Below.refl _ _ | apply pw_below_drewN | apply below_drew1))) (HS6.out.below (by repeat (first | exact Below.refl _ _ | apply pw_below_drewN | apply below_drew1))) (by simp) HST.out HLT.out (small_nil _) (Nat.le_refl _)).mono ?_; intro e w7 hpost; unfold GoPost at hpost; obtain ⟨rfl, ⟨vw7, bs7, zs7, hI7⟩, hF7, hB7⟩ := hpost; have HI7 := Aside0.mk hI7; have HBB7 := Aside0.mk (show Below (P + 3) w3 w7 from by (refine Below.trans (?_ : Below (P + 3) w3 _) hB7; repeat (first | exact (HBB5.out.trans (HB6.out.mono (Nat.le_trans (blk_lt HF.out) HBB5.out.size))) | apply pw_below_drewN | apply below_drew1))); have HQ7 := Aside0.mk (show w7.cell? ⟨P, 1, none⟩ = some (.int .i64 (st : Int)) ∧ w7.cell? ⟨P, 2, none⟩ = some (.int .i64 (nb : Int)) from And.intro ((blk_cell ((HBB7.out.block P (by omega)).trans HPR.out) 1).trans rfl) ((blk_cell ((HBB7.out.block P (by omega)).trans HPR.out) 2).trans rfl)); clear hI7 hF7 hB7)))
        have HX7 := Aside0.mk ((HBB7.out.block (P + 1) (by omega)).trans HX.out)
        have HF7 := Aside0.mk ((HBB7.out.block (P + 1 + 1) (by omega)).trans HF.out)
        have HBW7 := Aside0.mk (show Below W.heap.size W w7 from HB3.out.trans (HBB7.out.mono (by have := HPE.out; omega)))
        obtain ⟨Aw, cw, rfl⟩ := Kd.R_slice HI7.out.hR
        have hzl := HI7.out.hZ.len
        have e4 : w7.cell? ⟨gq, 4, none⟩ = some (.slice Aw zs7.length cw) := (blk_cell HI7.out.hW 4).trans rfl
        have x2 : w7.cell? ⟨P + 1, 2, none⟩ = some (.bool anch) := (blk_cell HX7.out 2).trans rfl
        have k0 := (blk_cell HF7.out 0).trans rfl
        have k1 := (blk_cell HF7.out 1).trans rfl
        have f0 := blk_frozen HF7.out 0
        have f1 := blk_frozen HF7.out 1
        obtain ⟨nz, hnz⟩ : ∃ nz, zs7.length = nz := ⟨_, rfl⟩
        have HNZ := Aside0.mk hnz
        rw [hnz] at e4 hzl
        clear hnz HB6 HS6 HI6 HQ6 HQ7 HBB5 HI5 HPR5 HX5 HF5 HQ5 HPL5
        by_cases hws : ws = []
        · subst hws
          obtain rfl : nz = 0 := hzl
          have HF0 := Aside0.mk (show R = if anch = true then none else findV (mvP l t) (t.size + 1) l.length st (List.replicate nb (-1)) long anch (t.size + 1 - (a + 1)) (a + 1) from by
            have := HFD.out
            rw [show pick long a [] = none by unfold pick; cases long <;> rfl] at this
            exact this)
          cases anch with
          | true =>
            have HRN := Aside0.mk (show R = none from by rw [HF0.out, if_pos rfl])
            go_wp2_with fail
            refine bodyPost_ret (results_ct rfl _ _ (P + 1 + 1) 34 #[.bool false, .slice none 0 0] (0, 0) _ rfl (blk_put (blk_put HF7.out 0 _ rfl) 1 _ rfl) Try.underlying34 rfl (by kernel_rfl)) rfl (HPO2.out _ _ (below_set (below_set HBW7.out (by have := HPE.out; omega)) (by have := HPE.out; omega)) (.inl ⟨HRN.out, rfl⟩))
          | false =>
            have HRN := Aside0.mk (show R = findV (mvP l t) (t.size + 1) l.length st (List.replicate nb (-1)) long false (t.size + 1 - (a + 1)) (a + 1) from by rw [HF0.out, if_neg (by decide)])
            go_wp2_with fail
            go_roundg (t.size + 2 - (a + 1))
            case measure => omega
            case rel => exact ⟨a + 1, rfl, by omega, by omega, by omega, HRN, HBB7⟩
        · obtain ⟨x, hx⟩ := pick_some (long := long) (a := a) hws
          have HRX := Aside0.mk (show R = some x from by rw [HFD.out, hx])
          have HFA := Aside0.mk (fun (w : World) (hb : Below w7.heap.size w7 w) => found_at (W := w) (Kd.R_below HI7.out.hR hb) (HI7.out.hZ.frame (FrameR.below hb)) (by have h1 := HKP.out.2; have h2 := small_len _ HKP.out.1; have h3 := HSZ.out; omega) hws (fun w hw => by rw [HLN.out w hw]; exact HNB.out) a long hx)
          rw [HNZ.out] at HFA
          have hpos : (0 : Int) < (nz : Int) := by
            have : 0 < ws.length := List.length_pos_iff.2 hws
            omega
          have HQ8 := Aside0.mk (show w7.cell? ⟨gq, 4, none⟩ = some (.slice Aw nz cw) ∧ w7.cell? ⟨P + 1, 3, none⟩ = some (.bool long) from ⟨e4, (blk_cell HX7.out 3).trans rfl⟩)
          have HGL := Aside0.mk (blk_lt HI7.out.hW)
          have HXL := Aside0.mk (blk_lt HX7.out)
          have HFL := Aside0.mk (blk_lt HF7.out)
          have HGN := Aside0.mk (show gq ≠ P + 1 + 1 from by have := HI7.out.bk; omega)
          clear hx hzl x2 k0 k1 f0 f1
          go_upto_region 9 with fail
          go_region_held3 (fun w => w.cell? ⟨gq, 4, none⟩ = some (.slice Aw nz cw) ∧ w.cell? ⟨P + 1, 3, none⟩ = some (.bool long)) (first | exact HQ8.out | exact HQ9.out | exact And.intro ((World.cell?_of_block (a := ⟨gq, 4, none⟩) ((Below.heap_setCell _ _ _ _ HGN.out).trans (Below.heap_setCell _ _ _ _ HGN.out))).trans HQ9.out.1) ((World.cell?_of_block (a := ⟨P + 1, 3, none⟩) ((Below.heap_setCell _ _ _ _ (show P + 1 ≠ P + 1 + 1 by omega)).trans (Below.heap_setCell _ _ _ _ (show P + 1 ≠ P + 1 + 1 by omega)))).trans HQ9.out.2)) (first | ((go_at_call 43; refine (HFA.out _ (by repeat (first | exact Below.refl _ _ | apply pw_below_drewN | apply below_drew1))).mono ?_; intro e w9 hpost; unfold FoundPost at hpost; obtain ⟨v9, rfl, hR9, hb9⟩ := hpost; have HB9 := Aside0.mk (show Below w7.heap.size w7 w9 from by (refine Below.trans (?_ : Below w7.heap.size w7 _) hb9; repeat (first | exact Below.refl _ _ | apply pw_below_drewN | apply below_drew1))); have HR9 := Aside0.mk hR9; have HQ9 := Aside0.mk (show w9.cell? ⟨gq, 4, none⟩ = some (.slice Aw nz cw) ∧ w9.cell? ⟨P + 1, 3, none⟩ = some (.bool long) from And.intro ((HB9.out.cell (p := ⟨gq, 4, none⟩) HGL.out).trans HQ8.out.1) ((HB9.out.cell (p := ⟨P + 1, 3, none⟩) HXL.out).trans HQ8.out.2)); have HF9 := Aside0.mk (blk_below HF7.out HB9.out); obtain ⟨A9, c9, e9⟩ := Kd.R_slice hR9; obtain ⟨n9, hn9⟩ : ∃ n9, x.length = n9 := ⟨_, rfl⟩; rw [hn9] at e9; subst e9; have k0 := (blk_cell HF9.out 0).trans rfl; have k1 := (blk_cell HF9.out 1).trans rfl; have f0 := blk_frozen HF9.out 0; have f1 := blk_frozen HF9.out 1; clear hR9 hb9)))
          go_wp2_with fail
          have hne : ∀ k, (Value.slice A9 n9 c9).ownBlock = some k → k ≠ P + 1 + 1 := fun k hk e => by
            have h1 := Kd.R_base HR9.out k hk
            have h3 := HFL.out
            have h2 : w7.heap.size ≤ k := h1
            omega
          refine bodyPost_ret (results_ct rfl _ _ (P + 1 + 1) 34 #[.bool true, .slice A9 n9 c9] (0, 0) _ rfl (blk_put (blk_put HF9.out 0 _ rfl) 1 _ rfl) Try.underlying34 rfl (by kernel_rfl)) rfl (HPO2.out _ _ (below_set (below_set (HBW7.out.trans (HB9.out.mono HBW7.out.size)) (by have := HPE.out; omega)) (by have := HPE.out; omega)) (.inr ⟨x, _, HRX.out, rfl, ?_⟩))
          exact Kd.R_lower (R_stay HR9.out (fun k hk => (Below.heap_setCell _ _ _ _ (hne k hk)).trans (Below.heap_setCell _ _ _ _ (hne k hk))) (fun _ _ => trivial)) HBW7.out.size
      · have q1 : ((a : Int) ≤ (t.size : Int)) = False := eq_false (by omega)
        have HRN := Aside0.mk (show R = none from by rw [HRE.out, show t.size + 1 - a = 0 by omega]; rfl)
        have k0 := (blk_cell HF'.out 0).trans rfl
        have k1 := (blk_cell HF'.out 1).trans rfl
        have f0 := blk_frozen HF'.out 0
        have f1 := blk_frozen HF'.out 1
        go_wp2_with fail
        refine bodyPost_ret (results_ct rfl _ _ (P + 1 + 1) 34 #[.bool false, .slice none 0 0] (0, 0) _ rfl (blk_put (blk_put HF'.out 0 _ rfl) 1 _ rfl) Try.underlying34 rfl (by kernel_rfl)) rfl (HPO2.out _ _ (below_set (below_set HBW.out (by have := HPE.out; omega)) (by have := HPE.out; omega)) (.inl ⟨HRN.out, rfl⟩))
end Go.Proofs.Ytjajehjhonabdaa.Pure
