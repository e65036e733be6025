import Derived.Test.YtcijpncjdccbbaaXCacheS
import Derived.Maps.Own
import Derived.StillTailTactics
namespace Go.Proofs.YtcijpncjdccbbaaX
open Go.ChangeMaps Go.MapKept Go.RowKit Go.Proofs.YtcijpncjdccbbaaW.PrintWords Go.Proofs.YtcijpncjdccbbaaW.PrintLast Go.Proofs.YtcijpncjdccbbaaW.PrintMore
open Go.Maps (Keyed)
set_option linter.unusedVariables false
set_option linter.unusedSimpArgs false
theorem newS_bad (most : Int) (hm : most < 1 ∨ most > 4000) (w : World) :
    Calls Try.prog 12 #[.int .i64 most] w fun e w' => e = .returned (.tuple #[.pointer none, .int .i64 1]) ∧ w' = w := by
  go_enter Try.func12, Try.ntmps12
  by_cases h1 : most < 1
  · go_wp2
    go_ret2
    exact ⟨rfl, rfl⟩
  · have h2 : most > 4000 := by omega
    clear hm
    go_wp2
    go_ret2
    exact ⟨rfl, rfl⟩
theorem newS (most : Int) (h1 : 1 ≤ most) (h2 : most ≤ 4000) (w : World) :
    Calls Try.prog 12 #[.int .i64 most] w fun e w' => ∃ C, e = .returned (.tuple #[.pointer (some ⟨C, 0, none⟩), .int .i64 0]) ∧ CacheS w' w.heap.size C most 0 [] ∧ Below w.heap.size w w' := by
  have hmm := @run_makeMap Try.prog
  go_enter Try.func12, Try.ntmps12
  go_wp2
  go_ret2
  refine ⟨w.heap.size + 1, rfl, ⟨w.heap.size, none, 0, [], .map [], ⟨?_, by omega, Nat.le_refl _, (World.ownsMap_made _ _ _ _).alloc _, MapOk.nil, Kd.R_nil _ _ _ _ _, rfl, List.nodup_nil, fun i h => by simp at h⟩⟩, ((Below.refl _ w).alloc (Nat.le_refl _) _).alloc (by simp) _⟩
  have := heap_alloc_at (w.alloc (.map #[] 0)) (.cells #[.int .i64 most, .int .i64 0, .map (some w.heap.size), .slice none 0 0] 76)
  rw [show (w.alloc (.map #[] 0)).heap.size = w.heap.size + 1 by simp] at this
  exact this
def keptZS : Array Value := ((List.range 772).map (fun i => if i = 0 then .string ⟨#[]⟩ else if i % 3 = 1 then .int .i64 0 else .bool false)).toArray
theorem zero_keptS (w : World) : (zeroValue 78).run Try.prog w = .ok (.agg keptZS) w := by kernel_rfl
theorem keptZS_size : keptZS.size = 772 := by simp [keptZS]
theorem keptZS_ne : keptZS ≠ #[] := fun h => by
  have := keptZS_size
  rw [h] at this
  cases this
theorem keptOf_keptS {w : World} {p : Nat} {s : ByteArray} (h : w.heap[p]? = some (.cells (keptZS.setIfInBounds 0 (.string s)) 78 (0, 0))) : KeptS w p s (fun _ => (0, false, false)) := by
  refine ⟨_, h, by simp [keptZS], by simp [keptZS], fun b hb => ⟨?_, ?_, ?_⟩⟩
  · rw [Array.getElem?_setIfInBounds_ne (by omega)]
    simp only [keptZS, List.getElem?_toArray, List.getElem?_map]
    rw [List.getElem?_range (by omega), Option.map_some, if_neg (by omega)]
    first | rw [if_pos (by omega)] | rw [if_neg (by omega)]
  · rw [Array.getElem?_setIfInBounds_ne (by omega)]
    simp only [keptZS, List.getElem?_toArray, List.getElem?_map]
    rw [List.getElem?_range (by omega), Option.map_some, if_neg (by omega)]
    first | rw [if_pos (by omega)] | rw [if_neg (by omega)]
  · rw [Array.getElem?_setIfInBounds_ne (by omega)]
    simp only [keptZS, List.getElem?_toArray, List.getElem?_map]
    rw [List.getElem?_range (by omega), Option.map_some, if_neg (by omega)]
    first | rw [if_pos (by omega)] | rw [if_neg (by omega)]
theorem info_ptrS : (Try.prog.info? 79).map (fun i => (i.zero, i.size, i.bytes)) = some (some (.pointer none), 1, 8) := by kernel_rfl
theorem KeptS.move {w w' : World} {p : Nat} {s : ByteArray} {lk : Nat → Int × Bool × Bool} (h : KeptS w p s lk) (hb : w'.heap[p]? = w.heap[p]?) : KeptS w' p s lk := by
  obtain ⟨cells, h1, h2⟩ := h
  exact ⟨cells, hb.trans h1, h2⟩
theorem KeptS.lt {w : World} {p : Nat} {s : ByteArray} {lk : Nat → Int × Bool × Bool} (h : KeptS w p s lk) : p < w.heap.size := by
  obtain ⟨cells, h1, h2⟩ := h
  exact blk_lt h1
theorem repS_put {base C : Nat} {most fl : Int} {ts : List ThS} {M : Nat} {A : Option Addr} {cap : Nat} {ps : List Nat} {D : DM} {we w2 w4 : World} {key : ByteArray} {s : ByteArray} {A1 : Option Addr} {c1 : Nat}
    (hRep : RepS we base C most fl ts M A cap ps D) (hbw : base ≤ we.heap.size)
    (hM2 : w2.ownsMap Try.prog 9 (plainElem Try.prog 3) M (ts.length + 1) (D.put (klit key) (.lit (.int .i64 ts.length)))) (hg2 : we.grownBy w2 (some M))
    (hO : Kd.R kPtr 79 w4 base (fun _ => True) (.slice A1 (ts.length + 1) c1) (ps ++ [w2.heap.size]))
    (hg4 : (w2.alloc (.cells (keptZS.setIfInBounds 0 (.string s)) 78)).grownBy w4 (Value.slice A ts.length cap).ownBlock)
    (hC4 : w4.heap[C]? = some (.cells #[.int .i64 most, .int .i64 fl, .map (some M), .slice A ts.length cap] 76 (0, 0))) (hkey : ∀ t ∈ ts, t.key ≠ key) :
    RepS (w4.setCell ⟨C, 3, none⟩ (.slice A1 (ts.length + 1) c1)) base C most fl (ts ++ [⟨key, s, fun _ => (0, false, false)⟩]) M A1 c1 (ps ++ [w2.heap.size]) (D.put (klit key) (.lit (.int .i64 ts.length))) := by
  have hne : M ≠ C := fun e => by
    obtain ⟨es, clock, hb, _⟩ := hRep.hM
    have := hRep.hC
    rw [← e, hb] at this
    cases this
  have hsz2 := hg2.size
  have hsz4 := hg4.size
  have hown := own_ne_map hRep.hR hRep.hM
  have hcat := fun k (hk : k ≠ C) => Below.heap_setCell w4 ⟨C, 3, none⟩ (.slice A1 (ts.length + 1) c1) k hk
  refine ⟨?_, hRep.hbC, hRep.hbM, ?_, ?_, ?_, ?_, ?_, ?_⟩
  · refine blk_put hC4 3 _ ?_
    rw [List.length_append]
    rfl
  · rw [List.length_append]
    exact ((hM2.alloc _).kept hg4 hown).setCell (a := ⟨C, 3, none⟩) hne _
  · have := hRep.hD.put (k := key) (fun hm => by obtain ⟨t, ht, e⟩ := List.mem_map.1 hm; exact hkey t ht e)
    rw [List.length_map] at this
    rw [List.map_append]
    exact this
  · rw [List.length_append]
    refine Kd.R_mono (Kd.R_far (Kd.R_bound hO) (p := ⟨C, 3, none⟩) (fun k hk => show k ≠ C from fun e => ?_) _) (fun _ _ => trivial)
    obtain ⟨q, hq, cells, hc⟩ := hk.2.2.2
    rw [e, hC4] at hc
    have hq' : q = 79 := by simpa [kPtr, Kd.scalar] using hq
    subst hq'
    cases hc
  · rw [List.length_append, List.length_append, hRep.hlen]
    rfl
  · rw [List.nodup_append]
    refine ⟨hRep.hnd, by simp, fun a ha b hb => ?_⟩
    obtain ⟨i, hi, rfl⟩ := List.getElem_of_mem ha
    have := ((hRep.hk i hi (hRep.hlen ▸ hi)).2).lt
    simp only [List.mem_singleton] at hb
    omega
  · intro i h1 h2
    by_cases hlt : i < ps.length
    · have hi2 : i < ts.length := hRep.hlen ▸ hlt
      obtain ⟨hb, hkp⟩ := hRep.hk i hlt hi2
      rw [List.getElem_append_left hlt, List.getElem_append_left hi2]
      refine ⟨hb, hkp.move ?_⟩
      obtain ⟨cells, hc, _⟩ := hkp
      have n1 : ps[i] ≠ C := fun e => by
        have := hRep.hC
        rw [← e, hc] at this
        injection this with this
        injection this with _ this
        exact absurd this (by decide)
      have n2 : some ps[i] ≠ some M := fun e => by
        obtain ⟨es, clock, hb, _⟩ := hRep.hM
        rw [← Option.some.inj e, hc] at hb
        cases hb
      have n3 := Kd.R_ne hRep.hR hc (by decide)
      have hlt' := blk_lt hc
      rw [hcat _ n1, hg4.block _ (by simp; omega) n3, ((Below.refl _ w2).alloc (Nat.le_refl _) _).block _ (by omega), hg2.block _ hlt' n2]
    · have ei : i = ps.length := by simp at h1; omega
      subst ei
      rw [List.getElem_append_right (Nat.le_refl _)]
      have e2 : (ts ++ [(⟨key, s, fun _ => (0, false, false)⟩ : ThS)])[ps.length] = ⟨key, s, fun _ => (0, false, false)⟩ := by
        rw [List.getElem_append_right (by rw [hRep.hlen]; exact Nat.le_refl _)]
        simp
      rw [e2]
      simp only [Nat.sub_self, List.getElem_cons_zero]
      refine ⟨by omega, ?_⟩
      have hk0 : KeptS (w2.alloc (.cells (keptZS.setIfInBounds 0 (.string s)) 78)) w2.heap.size s (fun _ => (0, false, false)) := keptOf_keptS (heap_alloc_at w2 _)
      refine hk0.move ?_
      have hlC := blk_lt hRep.hC
      rw [hcat _ (by omega), hg4.block _ (by simp) ?_]
      intro e
      have := ((Kd.R_bound hRep.hR).1 _ e.symm).2.2.1
      omega
theorem frameS_put {base C : Nat} {most fl : Int} {ts : List ThS} {M : Nat} {A : Option Addr} {cap : Nat} {ps : List Nat} {D : DM} {we w2 w4 : World} {o : Obj} {cs : Array Value}
    (hRep : RepS we base C most fl ts M A cap ps D) (hg2 : we.grownBy w2 (some M)) (hg4 : (w2.alloc o).grownBy w4 (Value.slice A ts.length cap).ownBlock)
    (hC4 : w4.heap[C]? = some (.cells cs 76 (0, 0))) (u : Value) : FrameS we (w4.setCell ⟨C, 3, none⟩ u) := by
  have hsz2 := hg2.size
  have hsz4 := hg4.size
  refine ⟨by simp [World.setCell] at *; omega, fun k cells q hk n1 n2 n3 => ?_⟩
  have hlt := blk_lt hk
  have k1 : k ≠ C := fun e => by
    have := hRep.hC
    rw [← e, hk] at this
    injection this with this
    injection this with _ this
    exact n1 this
  have k2 : some k ≠ some M := fun e => by
    obtain ⟨es, clock, hb, _⟩ := hRep.hM
    rw [← Option.some.inj e, hk] at hb
    cases hb
  have k3 := Kd.R_ne hRep.hR hk (fun e => n2 e.symm)
  rw [Below.heap_setCell w4 ⟨C, 3, none⟩ u k k1, hg4.block _ (by simp; omega) k3, ((Below.refl _ w2).alloc (Nat.le_refl _) _).block _ (by omega), hg2.block _ hlt k2]
theorem frameS_flush {base C : Nat} {most fl : Int} {ts : List ThS} {M : Nat} {A : Option Addr} {cap : Nat} {ps : List Nat} {D : DM} {wd w2 w3 : World} {cs : Array Value}
    (hRep : RepS wd base C most fl ts M A cap ps D) (hg2 : wd.grownBy w2 (some M)) (hg3 : w2.grownBy w3 (Value.slice A ts.length cap).ownBlock)
    (hC3 : w3.heap[C]? = some (.cells cs 76 (0, 0))) (A' : Option Addr) (cap' : Nat) : FrameS wd ((w3.setCell ⟨C, 3, none⟩ (.slice A' 0 cap')).setCell ⟨C, 1, none⟩ (.int .i64 (fl + 1))) := by
  have hsz2 := hg2.size
  have hsz3 := hg3.size
  refine ⟨by simp [World.setCell] at *; omega, fun k cells q hk n1 n2 n3 => ?_⟩
  have hlt := blk_lt hk
  have k1 : k ≠ C := fun e => by
    have := hRep.hC
    rw [← e, hk] at this
    injection this with this
    injection this with _ this
    exact n1 this
  have k2 : some k ≠ some M := fun e => by
    obtain ⟨es, clock, hb, _⟩ := hRep.hM
    rw [← Option.some.inj e, hk] at hb
    cases hb
  have k3 := Kd.R_ne hRep.hR hk (fun e => n2 e.symm)
  rw [Below.heap_setCell _ ⟨C, 1, none⟩ _ k k1, Below.heap_setCell w3 ⟨C, 3, none⟩ _ k k1, hg3.block _ (by omega) k3, hg2.block _ hlt k2]
set_option maxHeartbeats 4000000 in
theorem putS_new (w : World) (base C : Nat) (most fl : Int) (ts : List ThS) (n : Nat) (hnn : n = ts.length) (h : CacheS w base C most fl ts) (hbw : base ≤ w.heap.size) (hn : n ≤ 4000) (key : ByteArray) (hkey : key.size ≤ maxLen) (hr : ∀ t ∈ ts, t.key ≠ key) (hfull : (n : Int) ≠ most) (s : ByteArray) :
    Calls Try.prog 16 #[.pointer (some ⟨C, 0, none⟩), .string key, .string s] w fun e w' => e = .returned (.int .i64 n) ∧ CacheS w' base C most fl (ts ++ [⟨key, s, fun _ => (0, false, false)⟩]) ∧ Below base w w' ∧ FrameS w w' := by
  have HF := Aside0.mk (findS w base C most fl ts h key hkey (-1) (.inr ⟨hr, rfl⟩))
  have HH := Aside0.mk h
  have hkl := WideMaps.keyOf_string_mk (P := Try.prog) Try.underlying9 hkey
  have HR := Aside0.mk hr
  have HN := Aside0.mk hnn
  clear h hr hnn
  go_enter Try.func16, Try.ntmps16
  go_wp2_with fail
  refine HF.out.mono ?_
  rintro e w1 ⟨rfl, hb1⟩
  have HB1 := Aside0.mk (hb1.mono hbw)
  have HV1 := Aside0.mk (FrameS.below hb1)
  have hca := HH.out.below hb1
  have hbw1 : base ≤ w1.heap.size := Nat.le_trans hbw hb1.size
  obtain ⟨M, A, cap, ps, D, h⟩ := hca
  have HCA := Aside0.mk h
  have c3 : w1.cell? ⟨C, 3, none⟩ = some (.slice A ts.length cap) := (blk_cell h.hC 3).trans rfl
  have c0 : w1.cell? ⟨C, 0, none⟩ = some (.int .i64 most) := (blk_cell h.hC 0).trans rfl
  clear h hb1 HF HH
  rw [← HN.out] at c3
  go_wp2_with fail
  go_quiet (fail)
  go_wp2_with fail
  clear c3 c0
  have hbd := pw_below_drewN (Below.refl w1.heap.size w1) nq
  have HB2 := Aside0.mk (HB1.out.trans (hbd.mono hbw1))
  have HV2 := Aside0.mk (HV1.out.trans (FrameS.below hbd))
  have h := HCA.out.below hbd
  have hbw2 : base ≤ (w1.drewN nq).heap.size := hbw1
  clear HCA hbd HB1
  generalize w1.drewN nq = wd at *
  have c2 : wd.cell? ⟨C, 2, none⟩ = some (.map (some M)) := (blk_cell h.hC 2).trans rfl
  have c3 : wd.cell? ⟨C, 3, none⟩ = some (.slice A ts.length cap) := (blk_cell h.hC 3).trans rfl
  rw [← HN.out] at c3
  go_still_tail 10, (by kernel_rfl)
  change wpList _ _ _ _ _ wd.drew
  have hbd := (Below.refl wd.heap.size wd).drew
  have HB3 := Aside0.mk (HB2.out.trans (hbd.mono hbw2))
  have HV3 := Aside0.mk (HV2.out.trans (FrameS.below hbd))
  have h3 := h.below hbd
  have hbw3 : base ≤ wd.drew.heap.size := hbw2
  clear h hbd HB2 c2 c3
  generalize wd.drew = we at *
  have HREP := Aside0.mk h3
  have HM := Aside0.mk (show we.ownsMap Try.prog 9 (plainElem Try.prog 3) M n D from HN.out ▸ h3.hM)
  have HC := Aside0.mk h3.hC
  have HNE := Aside0.mk (show some C ≠ some M from fun e => by
    obtain ⟨es, clock, hb, _⟩ := h3.hM
    have := h3.hC
    rw [Option.some.inj e, hb] at this
    cases this)
  have HNR := Aside0.mk (own_ne_map h3.hR h3.hM)
  have HR3 := Aside0.mk h3.hR
  have HPL := Aside0.mk h3.hlen
  have HBM := Aside0.mk h3.hbM
  rw [← HN.out] at HC HR3 HNR HPL
  have HNC := Aside0.mk (Kd.R_ne HR3.out HC.out (by decide))
  clear h3
  obtain ⟨Z, hZ⟩ : ∃ Z, Z = keptZS := ⟨_, rfl⟩
  have hzk : ∀ w, (zeroValue 78).run Try.prog w = .ok (.agg Z) w := hZ ▸ zero_keptS
  have hzn : Z ≠ #[] := hZ ▸ keptZS_ne
  have HZ := Aside0.mk hZ
  clear hZ
  go_wp2_with (first | (at_mapUpdate; refine wpList_mapUpdate_own _ rfl _ _ _ 63 rfl 9 3 law_string Try.underlying63 _ M n _ rfl HM.out (by unfold maxLen; omega) _ _ _ rfl rfl hkl _ [] (plainElem_int Try.underlying3 (WalkArith.wf_i64 (by omega))) ?_; intro w2 hown2 hg2; have HM2 := Aside0.mk hown2; have HG2 := Aside0.mk hg2; have hC2 := (hg2.block C (blk_lt HC.out) HNE.out).trans HC.out; have c3 : w2.cell? ⟨C, 3, none⟩ = some (.slice A n cap) := (blk_cell hC2 3).trans rfl; have HC2 := Aside0.mk hC2; clear hown2 hg2 hC2) | (at_builtin; refine Kd.R_append kPtr (w0 := w) (W := w2.alloc (.cells (Z.setIfInBounds 0 (.string s)) 78)) base rfl (.tmp 61) (.tmp 65) 74 79 (.pointer none) 8 rfl Try.underlying74 info_ptrS rfl (by decide) (by omega) (.slice A n cap) ps w2.heap.size [.pointer (some ⟨w2.heap.size, 0, none⟩)] (fun _ => True) (fun _ => False) rfl ?aX ?aP (fun _ hk => hk.elim) (fun _ _ => trivial) ?aO ?aB ?aS ?aL ?_; (case aX => (first | rfl | (simp [Act.eval]; done) | (simp [Act.eval] <;> rfl))); (case aP => exact rfl); (case aO => apply Kd.R_alloc; exact Kd.R_grown1 HR3.out rfl HG2.out HNR.out); (case aB => exact (HB3.out.grown HG2.out hbw3 (fun k hk => by cases hk; exact HBM.out)).alloc (Nat.le_trans hbw3 HG2.out.size) _); (case aS => have := HG2.out.size; simp; omega); (case aL => rw [HPL.out]; (try simp only [List.length_nil]); omega); intro v1 w4 ho hb hg hat; obtain ⟨A1, c1, e1⟩ := Kd.R_slice ho; have hle : (ps ++ [w2.heap.size]).length = n + 1 := (by rw [List.length_append, HPL.out]; rfl); rw [hle] at e1; clear hle; subst e1; have hC4 := (hg.block C (by have := blk_lt HC2.out; simp; omega) HNC.out).trans (((Below.refl _ w2).alloc (Nat.le_refl _) _).block C (blk_lt HC2.out) |>.trans HC2.out); have hcell4 : w4.cell? ⟨C, 3, none⟩ = some (.slice A n cap) := (blk_cell hC4 3).trans rfl; have hfr4 : w4.frozen? ⟨C, 3, none⟩ = false := blk_frozen hC4 3; have HO := Aside0.mk ho; have HB4 := Aside0.mk hb; have HG4 := Aside0.mk hg; have HC4 := Aside0.mk hC4; clear ho hb hg hat hC4))
  go_ret
  have hz := HZ.out
  subst hz
  refine ⟨rfl, ⟨M, A1, c1, ps ++ [w2.heap.size], D.put (klit key) (.lit (.int .i64 n)), ?_⟩, HB4.out.setCell (p := ⟨C, 3, none⟩) HREP.out.hbC _, HV3.out.trans (frameS_put HREP.out HG2.out (by rw [← HN.out]; exact HG4.out) HC4.out _)⟩
  have hn2 := HN.out
  subst hn2
  exact repS_put HREP.out hbw3 HM2.out HG2.out HO.out HG4.out HC4.out HR.out
theorem repS_flush {base C : Nat} {most fl : Int} {ts : List ThS} {M : Nat} {A : Option Addr} {cap : Nat} {ps : List Nat} {D : DM} {w0 wd w2 w3 : World}
    (hRep : RepS wd base C most fl ts M A cap ps D) (hB : Below base w0 wd) (hbw : base ≤ wd.heap.size)
    (hM2 : w2.ownsMap Try.prog 9 (plainElem Try.prog 3) M 0 (.map [] : DM)) (hg2 : wd.grownBy w2 (some M))
    (hR3 : Kd.R kPtr 79 w3 base (fun _ => True) (.slice A 0 cap) []) (hg3 : w2.grownBy w3 (Value.slice A ts.length cap).ownBlock)
    (hC3 : w3.heap[C]? = some (.cells #[.int .i64 most, .int .i64 fl, .map (some M), .slice A ts.length cap] 76 (0, 0))) :
    RepS ((w3.setCell ⟨C, 3, none⟩ (.slice A 0 cap)).setCell ⟨C, 1, none⟩ (.int .i64 (fl + 1))) base C most (fl + 1) [] M A cap [] (.map []) ∧ Below base w0 ((w3.setCell ⟨C, 3, none⟩ (.slice A 0 cap)).setCell ⟨C, 1, none⟩ (.int .i64 (fl + 1))) ∧ base ≤ ((w3.setCell ⟨C, 3, none⟩ (.slice A 0 cap)).setCell ⟨C, 1, none⟩ (.int .i64 (fl + 1))).heap.size := by
  have hne : M ≠ C := fun e => by
    obtain ⟨es, clock, hb, _⟩ := hRep.hM
    have := hRep.hC
    rw [← e, hb] at this
    cases this
  have hC5 : (w3.setCell ⟨C, 3, none⟩ (.slice A 0 cap)).heap[C]? = some (.cells #[.int .i64 most, .int .i64 fl, .map (some M), .slice A 0 cap] 76 (0, 0)) := blk_put hC3 3 _ rfl
  have hC6 : ((w3.setCell ⟨C, 3, none⟩ (.slice A 0 cap)).setCell ⟨C, 1, none⟩ (.int .i64 (fl + 1))).heap[C]? = some (.cells #[.int .i64 most, .int .i64 (fl + 1), .map (some M), .slice A 0 cap] 76 (0, 0)) := blk_put hC5 1 _ rfl
  have hfar : ∀ (W : World) (cs : Array Value), W.heap[C]? = some (.cells cs 76 (0, 0)) → ∀ {ps : List Nat} {v : Value} (i : Nat) (u : Value), Kd.R kPtr 79 W base (fun _ => True) v ps → Kd.R kPtr 79 (W.setCell ⟨C, i, none⟩ u) base (fun _ => True) v ps := by
    intro W cs hW ps v i u hR
    refine Kd.R_mono (Kd.R_far (Kd.R_bound hR) (p := ⟨C, i, none⟩) (fun k hk => show k ≠ C from fun e => ?_) _) (fun _ _ => trivial)
    obtain ⟨q, hq, cells, hc⟩ := hk.2.2.2
    rw [e, hW] at hc
    have hq' : q = 79 := by simpa [kPtr, Kd.scalar] using hq
    subst hq'
    cases hc
  have hb2 : Below base w0 w2 := hB.grown hg2 hbw (fun k hk => by cases hk; exact hRep.hbM)
  have hbw2 : base ≤ w2.heap.size := Nat.le_trans hbw hg2.size
  have hb3 : Below base w0 w3 := hb2.grown hg3 hbw2 (fun k hk => Kd.R_base hRep.hR k hk)
  have hbw3 : base ≤ w3.heap.size := Nat.le_trans hbw2 hg3.size
  refine ⟨⟨hC6, hRep.hbC, hRep.hbM, ?_, MapOk.nil, hfar _ _ hC5 1 _ (hfar _ _ hC3 3 _ hR3), rfl, List.nodup_nil, fun i h => by simp at h⟩, (hb3.setCell (p := ⟨C, 3, none⟩) hRep.hbC _).setCell (p := ⟨C, 1, none⟩) hRep.hbC _, by simpa [World.setCell] using hbw3⟩
  exact ((hM2.kept hg3 (own_ne_map hRep.hR hRep.hM)).setCell (a := ⟨C, 3, none⟩) hne _).setCell (a := ⟨C, 1, none⟩) hne _
theorem zero_ptrS (w : World) : (zeroValue 79).run Try.prog w = .ok (.pointer none) w := by kernel_rfl
set_option maxHeartbeats 4000000 in
theorem putS_full (w : World) (base C : Nat) (most fl : Int) (ts : List ThS) (n : Nat) (hnn : n = ts.length) (h : CacheS w base C most fl ts) (hbw : base ≤ w.heap.size) (hn : n ≤ 4000) (key : ByteArray) (hkey : key.size ≤ maxLen) (hr : ∀ t ∈ ts, t.key ≠ key) (hfull : (n : Int) = most) (hf0 : 0 ≤ fl) (hf1 : fl ≤ 1000000) (s : ByteArray) :
    Calls Try.prog 16 #[.pointer (some ⟨C, 0, none⟩), .string key, .string s] w fun e w' => e = .returned (.int .i64 0) ∧ CacheS w' base C most (fl + 1) [⟨key, s, fun _ => (0, false, false)⟩] ∧ Below base w w' ∧ FrameS w w' := by
  have HF := Aside0.mk (findS w base C most fl ts h key hkey (-1) (.inr ⟨hr, rfl⟩))
  have HH := Aside0.mk h
  have hkl := WideMaps.keyOf_string_mk (P := Try.prog) Try.underlying9 hkey
  have HR := Aside0.mk hr
  have HN := Aside0.mk hnn
  clear h hr hnn
  go_enter Try.func16, Try.ntmps16
  go_wp2_with fail
  refine HF.out.mono ?_
  rintro e w1 ⟨rfl, hb1⟩
  have HB1 := Aside0.mk (hb1.mono hbw)
  have HV1 := Aside0.mk (FrameS.below hb1)
  have hca := HH.out.below hb1
  have hbw1 : base ≤ w1.heap.size := Nat.le_trans hbw hb1.size
  obtain ⟨M, A, cap, ps, D, h⟩ := hca
  have HCA := Aside0.mk h
  have c3 : w1.cell? ⟨C, 3, none⟩ = some (.slice A ts.length cap) := (blk_cell h.hC 3).trans rfl
  have c0 : w1.cell? ⟨C, 0, none⟩ = some (.int .i64 most) := (blk_cell h.hC 0).trans rfl
  clear h hb1 HF HH
  rw [← HN.out] at c3
  go_wp2_with fail
  go_quiet (fail)
  clear c3 c0
  have hbd := pw_below_drewN (Below.refl w1.heap.size w1) nq
  have HB2 := Aside0.mk (HB1.out.trans (hbd.mono hbw1))
  have HV2 := Aside0.mk (HV1.out.trans (FrameS.below hbd))
  have h := HCA.out.below hbd
  have hbw2 : base ≤ (w1.drewN nq).heap.size := hbw1
  clear HCA hbd HB1
  generalize w1.drewN nq = wd at *
  have c2 : wd.cell? ⟨C, 2, none⟩ = some (.map (some M)) := (blk_cell h.hC 2).trans rfl
  have HREP0 := Aside0.mk h
  have HM0 := Aside0.mk h.hM
  obtain ⟨w2, hrun2, hown2, hturn2⟩ := ownsMap_clear h.hM Try.underlying63 0
  have hg2 := hturn2.grown
  have hMC : some C ≠ some M := fun e => by
    obtain ⟨es, clock, hb, _⟩ := h.hM
    have := h.hC
    rw [Option.some.inj e, hb] at this
    cases this
  have hC2 := (hg2.block C (blk_lt h.hC) hMC).trans h.hC
  have hR2 := Kd.R_grown1 h.hR rfl hg2 (own_ne_map h.hR h.hM)
  obtain ⟨w3, hrun3, hR3, hg3⟩ := clear_ptrs 74 79 0 Try.underlying74 (zero_ptrS w2) hR2
  have hC3 := (hg3.block C (blk_lt hC2) (Kd.R_ne hR2 hC2 (by decide))).trans hC2
  rw [← HN.out] at hC2 hC3 hrun3
  have c23 : w2.cell? ⟨C, 3, none⟩ = some (.slice A n cap) := (blk_cell hC2 3).trans rfl
  have c33 : w3.cell? ⟨C, 3, none⟩ = some (.slice A n cap) := (blk_cell hC3 3).trans rfl
  have f33 : w3.frozen? ⟨C, 3, none⟩ = false := blk_frozen hC3 3
  have c31 : w3.cell? ⟨C, 1, none⟩ = some (.int .i64 fl) := (blk_cell hC3 1).trans rfl
  have f31 : w3.frozen? ⟨C, 1, none⟩ = false := blk_frozen hC3 1
  have HC3 := Aside0.mk hC3
  have HR3' := Aside0.mk hR3
  have HG3 := Aside0.mk hg3
  have HG2 := Aside0.mk hg2
  have HM2 := Aside0.mk hown2
  clear h hown2 hturn2 hg2 hMC hC2 hR2 hR3 hg3 hC3
  go_wp2
  obtain ⟨h, hb5, hbw5⟩ := repS_flush HREP0.out HB2.out hbw2 HM2.out HG2.out HR3'.out (HN.out ▸ HG3.out) (HN.out ▸ HC3.out)
  have HVF := Aside0.mk (frameS_flush HREP0.out HG2.out HG3.out HC3.out A cap)
  clear c2 c23 c33 f33 c31 f31 hrun2 hrun3 HC3 HR3' HG3 HG2 HM2 HREP0 HM0 hbw2 HB2
  generalize (w3.setCell ⟨C, 3, none⟩ (.slice A 0 cap)).setCell ⟨C, 1, none⟩ (.int .i64 (fl + 1)) = wf at *
  have HB2 := Aside0.mk hb5
  have HV2 := Aside0.mk (HV2.out.trans HVF.out)
  have hbw2 := hbw5
  clear hb5 hbw5
  obtain ⟨ps, hps⟩ : ∃ ps : List Nat, ps = [] := ⟨_, rfl⟩
  obtain ⟨D, hD⟩ : ∃ D : DM, D = .map [] := ⟨_, rfl⟩
  rw [← hps, ← hD] at h
  have c2 : wf.cell? ⟨C, 2, none⟩ = some (.map (some M)) := (blk_cell h.hC 2).trans rfl
  have c3 : wf.cell? ⟨C, 3, none⟩ = some (.slice A 0 cap) := (blk_cell h.hC 3).trans rfl
  go_still_tail 10, (by kernel_rfl)
  change wpList _ _ _ _ _ wf.drew
  have hbd := (Below.refl wf.heap.size wf).drew
  have HB3 := Aside0.mk (HB2.out.trans (hbd.mono hbw2))
  have HV3 := Aside0.mk (HV2.out.trans (FrameS.below hbd))
  have h3 := h.below hbd
  have hbw3 : base ≤ wf.drew.heap.size := hbw2
  clear h hbd HB2 c2 c3
  generalize wf.drew = we at *
  have HREP := Aside0.mk h3
  have HM := Aside0.mk (show we.ownsMap Try.prog 9 (plainElem Try.prog 3) M 0 D from h3.hM)
  have HC := Aside0.mk h3.hC
  have HNE := Aside0.mk (show some C ≠ some M from fun e => by
    obtain ⟨es, clock, hb, _⟩ := h3.hM
    have := h3.hC
    rw [Option.some.inj e, hb] at this
    cases this)
  have HNR := Aside0.mk (own_ne_map h3.hR h3.hM)
  have HR3 := Aside0.mk h3.hR
  have HPL := Aside0.mk h3.hlen
  have HBM := Aside0.mk h3.hbM
  have HNC := Aside0.mk (Kd.R_ne HR3.out HC.out (by decide))
  clear h3
  obtain ⟨Z, hZ⟩ : ∃ Z, Z = keptZS := ⟨_, rfl⟩
  have hzk : ∀ w, (zeroValue 78).run Try.prog w = .ok (.agg Z) w := hZ ▸ zero_keptS
  have hzn : Z ≠ #[] := hZ ▸ keptZS_ne
  have HZ := Aside0.mk hZ
  clear hZ
  go_wp2_with (first | (at_mapUpdate; refine wpList_mapUpdate_own _ rfl _ _ _ 63 rfl 9 3 law_string Try.underlying63 _ M 0 _ rfl HM.out (by unfold maxLen; omega) _ _ _ rfl rfl hkl _ [] (plainElem_int Try.underlying3 (WalkArith.wf_i64 (by decide))) ?_; intro w2 hown2 hg2; have HM2 := Aside0.mk hown2; have HG2 := Aside0.mk hg2; have hC2 := (hg2.block C (blk_lt HC.out) HNE.out).trans HC.out; have c3 : w2.cell? ⟨C, 3, none⟩ = some (.slice A 0 cap) := (blk_cell hC2 3).trans rfl; have HC2 := Aside0.mk hC2; clear hown2 hg2 hC2) | (at_builtin; refine Kd.R_append kPtr (w0 := w) (W := w2.alloc (.cells (Z.setIfInBounds 0 (.string s)) 78)) base rfl (.tmp 61) (.tmp 65) 74 79 (.pointer none) 8 rfl Try.underlying74 info_ptrS rfl (by decide) (by omega) (.slice A 0 cap) ps w2.heap.size [.pointer (some ⟨w2.heap.size, 0, none⟩)] (fun _ => True) (fun _ => False) rfl ?aX ?aP (fun _ hk => hk.elim) (fun _ _ => trivial) ?aO ?aB ?aS ?aL ?_; (case aX => (first | rfl | (simp [Act.eval]; done) | (simp [Act.eval] <;> rfl))); (case aP => exact rfl); (case aO => apply Kd.R_alloc; exact Kd.R_grown1 HR3.out rfl HG2.out HNR.out); (case aB => exact (HB3.out.grown HG2.out hbw3 (fun k hk => by cases hk; exact HBM.out)).alloc (Nat.le_trans hbw3 HG2.out.size) _); (case aS => have := HG2.out.size; simp; omega); (case aL => rw [HPL.out]; (try simp only [List.length_nil]); omega); intro v1 w4 ho hb hg hat; obtain ⟨A1, c1, e1⟩ := Kd.R_slice ho; have hle : (ps ++ [w2.heap.size]).length = 0 + 1 := (by rw [List.length_append, HPL.out]; rfl); rw [hle] at e1; clear hle; subst e1; have hC4 := (hg.block C (by have := blk_lt HC2.out; simp; omega) HNC.out).trans (((Below.refl _ w2).alloc (Nat.le_refl _) _).block C (blk_lt HC2.out) |>.trans HC2.out); have hcell4 : w4.cell? ⟨C, 3, none⟩ = some (.slice A 0 cap) := (blk_cell hC4 3).trans rfl; have hfr4 : w4.frozen? ⟨C, 3, none⟩ = false := blk_frozen hC4 3; have HO := Aside0.mk ho; have HB4 := Aside0.mk hb; have HG4 := Aside0.mk hg; have HC4 := Aside0.mk hC4; clear ho hb hg hat hC4))
  go_ret
  have hz := HZ.out
  subst hz
  refine ⟨rfl, ⟨M, A1, c1, ps ++ [w2.heap.size], D.put (klit key) (.lit (.int .i64 0)), ?_⟩, HB4.out.setCell (p := ⟨C, 3, none⟩) HREP.out.hbC _, HV3.out.trans (frameS_put HREP.out HG2.out HG4.out HC4.out _)⟩
  exact repS_put HREP.out hbw3 HM2.out HG2.out HO.out HG4.out HC4.out (fun t ht => by cases ht)
end Go.Proofs.YtcijpncjdccbbaaX
