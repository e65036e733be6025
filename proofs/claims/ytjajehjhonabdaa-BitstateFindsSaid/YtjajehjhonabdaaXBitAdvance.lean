import Derived.Test.YtjajehjhonabdaaXBitWalker
import Derived.Test.YtjajehjhonabdaaXBitB
namespace Go.Proofs.YtjajehjhonabdaaX
open Go.RowKit Go.Proofs.YtjajehjhonabdaaW.PrintWords Go.Proofs.YtjajehjhonabdaaW.PrintLast Go.Proofs.YtjajehjhonabdaaW.PrintMore
open Bit
set_option linter.unusedVariables false
set_option linter.unusedSimpArgs false
/-! walker.advance. -/
section
variable {W W' : World} {base gw gc gm gd : Nat} {t : ByteArray} {long : Bool} {rows cols : Nat} {S : List Nat} {vj vs vb : Value} {jobs : List Job} {sl : List Int} {best : Option (List Int)} {st : Nat}
/-- What stands in a walker's blocks is kept where they are. -/
theorem WkI.keep (h : WkI W base gw gc gm gd t long rows cols S vj vs vb jobs sl best st) (hk : ∀ k, k < W.heap.size → W'.heap[k]? = W.heap[k]?) : WkI W' base gw gc gm gd t long rows cols S vj vs vb jobs sl best st := by
  obtain ⟨ws, m1, m2, m3⟩ := h.hM
  exact ⟨(hk gw (blk_lt h.hW)).trans h.hW, h.bw, h.bm, h.bd, h.hM.keep (hk gm (blk_lt m1)) (hk gd (blk_lt m2)), R_stay h.hJ (fun k hk' => hk k (Kd.R_lt h.hJ k hk')) (fun _ _ => trivial), R_stay h.hS (fun k hk' => hk k (Kd.R_lt h.hS k hk')) (fun _ _ => trivial), h.hN, fun b hb => ⟨R_stay (h.hB b hb).1 (fun k hk' => hk k (Kd.R_lt (h.hB b hb).1 k hk')) (h.hB b hb).1.1, (h.hB b hb).2⟩⟩
theorem WkI.below (h : WkI W base gw gc gm gd t long rows cols S vj vs vb jobs sl best st) (hb : Below W.heap.size W W') : WkI W' base gw gc gm gd t long rows cols S vj vs vb jobs sl best st := h.keep hb.block
/-- A pair is marked. -/
theorem wk_mark (h : WkI W base gw gc gm gd t long rows cols S vj vs vb jobs sl best st) {S' : List Nat} {q : Nat} {v : Value} (hM : MarksI (W.setCell ⟨gd, q, none⟩ v) gm gd rows cols S') : WkI (W.setCell ⟨gd, q, none⟩ v) base gw gc gm gd t long rows cols S' vj vs vb jobs sl best st ∧ Below base W (W.setCell ⟨gd, q, none⟩ v) := by
  obtain ⟨ws, m1, m2, m3⟩ := h.hM
  have far : ∀ k, k ≠ gd → (W.setCell ⟨gd, q, none⟩ v).heap[k]? = W.heap[k]? := fun k hk => Below.heap_setCell _ _ _ _ hk
  have rowk : ∀ {α : Type} {enc : α → Value} {h1 : ∀ x, (enc x).oneCell' = true} {e : Nat} {ok : Nat → Prop} {u : Value} {xs : List α}, (Kd.scalar enc h1).R e W base ok u xs → e ≠ 124 → ∀ k, u.ownBlock = some k → (W.setCell ⟨gd, q, none⟩ v).heap[k]? = W.heap[k]? := fun hR he k hk => by
    obtain ⟨_, inner, ho', _⟩ := hR
    obtain ⟨cells, hc⟩ := own_typed ho' k hk
    exact far k (blk_ne hc m2 he)
  exact ⟨⟨(far gw (blk_ne h.hW m2 (by decide))).trans h.hW, h.bw, h.bm, h.bd, hM, R_stay h.hJ (rowk h.hJ (by decide)) (fun _ _ => trivial), R_stay h.hS (rowk h.hS (by decide)) (fun _ _ => trivial), h.hN, fun b hb => ⟨R_stay (h.hB b hb).1 (rowk (h.hB b hb).1 (by decide)) (h.hB b hb).1.1, (h.hB b hb).2⟩⟩, (Below.refl _ _).setCell (p := ⟨gd, q, none⟩) h.bd _⟩
/-- A step is counted. -/
theorem wk_step (h : WkI W base gw gc gm gd t long rows cols S vj vs vb jobs sl best st) : WkI (W.setCell ⟨gw, 7, none⟩ (.int .i64 ((st + 1 : Nat) : Int))) base gw gc gm gd t long rows cols S vj vs vb jobs sl best (st + 1) ∧ Below base W (W.setCell ⟨gw, 7, none⟩ (.int .i64 ((st + 1 : Nat) : Int))) := by
  obtain ⟨ws, m1, m2, m3⟩ := h.hM
  have far : ∀ k, k ≠ gw → (W.setCell ⟨gw, 7, none⟩ (.int .i64 ((st + 1 : Nat) : Int))).heap[k]? = W.heap[k]? := fun k hk => Below.heap_setCell _ _ _ _ hk
  have rowk : ∀ {α : Type} {enc : α → Value} {h1 : ∀ x, (enc x).oneCell' = true} {e : Nat} {ok : Nat → Prop} {u : Value} {xs : List α}, (Kd.scalar enc h1).R e W base ok u xs → e ≠ 63 → ∀ k, u.ownBlock = some k → (W.setCell ⟨gw, 7, none⟩ (.int .i64 ((st + 1 : Nat) : Int))).heap[k]? = W.heap[k]? := fun hR he k hk => by
    obtain ⟨_, inner, ho', _⟩ := hR
    obtain ⟨cells, hc⟩ := own_typed ho' k hk
    exact far k (blk_ne hc h.hW he)
  exact ⟨⟨blk_put h.hW 7 _ rfl, h.bw, h.bm, h.bd, h.hM.keep (far gm (blk_ne m1 h.hW (by decide))) (far gd (blk_ne m2 h.hW (by decide))), R_stay h.hJ (rowk h.hJ (by decide)) (fun _ _ => trivial), R_stay h.hS (rowk h.hS (by decide)) (fun _ _ => trivial), h.hN, fun b hb => ⟨R_stay (h.hB b hb).1 (rowk (h.hB b hb).1 (by decide)) (h.hB b hb).1.1, (h.hB b hb).2⟩⟩, (Below.refl _ _).setCell (p := ⟨gw, 7, none⟩) h.bw _⟩
/-- A row of jobs that was put down. -/
theorem wk_jobs {W2 : World} {vj' : Value} {jobs' : List Job} (h : WkI W base gw gc gm gd t long rows cols S vj vs vb jobs sl best st) (hk : ∀ k, k < W.heap.size → some k ≠ vj.ownBlock → W2.heap[k]? = W.heap[k]?) (hR : Kd.R kJob 102 W2 base (fun _ => True) vj' jobs') (hne : vj'.ownBlock ≠ some gw) :
    WkI (W2.setCell ⟨gw, 4, none⟩ vj') base gw gc gm gd t long rows cols S vj' vs vb jobs' sl best st := by
  obtain ⟨ws, m1, m2, m3⟩ := h.hM
  have jt : ∀ k, vj.ownBlock = some k → ∃ cells, W.heap[k]? = some (.cells cells 102 (0, 0)) := fun k hk' => by
    obtain ⟨_, inner, ho', _⟩ := h.hJ
    exact own_typed ho' k hk'
  have notj : ∀ {k : Nat} {cells : Array Value} {e : Nat}, W.heap[k]? = some (.cells cells e (0, 0)) → e ≠ 102 → W2.heap[k]? = W.heap[k]? := fun hc he => hk _ (blk_lt hc) (fun e => by
    obtain ⟨cells', hc'⟩ := jt _ e.symm
    exact blk_ne hc hc' he rfl)
  have far : ∀ k, k ≠ gw → (W2.setCell ⟨gw, 4, none⟩ vj').heap[k]? = W2.heap[k]? := fun k hk => Below.heap_setCell _ _ _ _ hk
  have rowk : ∀ {α : Type} {enc : α → Value} {h1 : ∀ x, (enc x).oneCell' = true} {e : Nat} {ok : Nat → Prop} {u : Value} {xs : List α}, (Kd.scalar enc h1).R e W base ok u xs → e ≠ 63 → e ≠ 102 → ∀ k, u.ownBlock = some k → (W2.setCell ⟨gw, 4, none⟩ vj').heap[k]? = W.heap[k]? := fun hR he he2 k hk => by
    obtain ⟨_, inner, ho', _⟩ := hR
    obtain ⟨cells, hc⟩ := own_typed ho' k hk
    exact (far k (blk_ne hc h.hW he)).trans (notj hc he2)
  have hW2 := (notj h.hW (by decide)).trans h.hW
  exact ⟨blk_put hW2 4 _ rfl, h.bw, h.bm, h.bd, h.hM.keep ((far gm (blk_ne m1 h.hW (by decide))).trans (notj m1 (by decide))) ((far gd (blk_ne m2 h.hW (by decide))).trans (notj m2 (by decide))), R_stay hR (fun k hk' => far k (fun e => hne (by rw [hk', e]))) (fun _ _ => trivial), R_stay h.hS (rowk h.hS (by decide) (by decide)) (fun _ _ => trivial), h.hN, fun b hb => ⟨R_stay (h.hB b hb).1 (rowk (h.hB b hb).1 (by decide) (by decide)) (h.hB b hb).1.1, (h.hB b hb).2⟩⟩
/-- A slot is given a value. -/
theorem wk_slot {gs n c : Nat} (h : WkI W base gw gc gm gd t long rows cols S vj (.slice (some ⟨gs, 0, none⟩) n c) vb jobs sl best st) (k : Nat) (v : Int) : WkI (W.setCell ⟨gs, k, none⟩ (.int .i64 v)) base gw gc gm gd t long rows cols S vj (.slice (some ⟨gs, 0, none⟩) n c) vb jobs (sl.set k v) best st ∧ Below base W (W.setCell ⟨gs, k, none⟩ (.int .i64 v)) := by
  obtain ⟨ws, m1, m2, m3⟩ := h.hM
  have far : ∀ k', k' ≠ gs → (W.setCell ⟨gs, k, none⟩ (.int .i64 v)).heap[k']? = W.heap[k']? := fun k' hk => Below.heap_setCell _ _ _ _ hk
  obtain ⟨cells, hgs⟩ : ∃ cells, W.heap[gs]? = some (.cells cells 3 (0, 0)) := by
    obtain ⟨_, inner, ho', _⟩ := h.hS
    exact own_typed ho' gs rfl
  have rowk : ∀ {α : Type} {enc : α → Value} {h1 : ∀ x, (enc x).oneCell' = true} {e : Nat} {ok : Nat → Prop} {u : Value} {xs : List α}, (Kd.scalar enc h1).R e W base ok u xs → e ≠ 3 → ∀ k', u.ownBlock = some k' → (W.setCell ⟨gs, k, none⟩ (.int .i64 v)).heap[k']? = W.heap[k']? := fun hR he k' hk => by
    obtain ⟨_, inner, ho', _⟩ := hR
    obtain ⟨cells', hc⟩ := own_typed ho' k' hk
    exact far k' (blk_ne hc hgs he)
  refine ⟨⟨(far gw (blk_ne h.hW hgs (by decide))).trans h.hW, h.bw, h.bm, h.bd, h.hM.keep (far gm (blk_ne m1 hgs (by decide))) (far gd (blk_ne m2 hgs (by decide))), R_stay h.hJ (rowk h.hJ (by decide)) (fun _ _ => trivial), ?_, h.hN, fun b hb => ⟨R_stay (h.hB b hb).1 (fun k' hk => far k' (fun e => (h.hB b hb).1.1 k' hk (by rw [e]; rfl))) (h.hB b hb).1.1, by rw [List.length_set]; exact (h.hB b hb).2⟩⟩, (Below.refl _ _).setCell (p := ⟨gs, k, none⟩) (Kd.R_base h.hS gs rfl) _⟩
  have := Kd.R_putn h.hS (k : Int) v
  exact this
end
theorem info_job : (Try.prog.info? 102).map (fun i => (i.zero, i.size, i.bytes)) = some (some .nilIface, 1, 16) := by kernel_rfl
/-- A job more: behind the append and the store. -/
theorem wk_push {W w4 w5 : World} {base gw gc gm gd : Nat} {t : ByteArray} {long : Bool} {rows cols : Nat} {S : List Nat} {vs vb : Value} {jobs : List Job} {sl : List Int} {best : Option (List Int)} {st : Nat} {Aj : Option Addr} {nj cj : Nat} {v1 : Value} {jobs1 : List Job} (h : WkI w4 base gw gc gm gd t long rows cols S (.slice Aj nj cj) vs vb jobs sl best st)
    (hsame : W.heap = w4.heap) (ho : Kd.R kJob 102 w5 base (fun _ => True) v1 jobs1) (hg : W.grownBy w5 (Value.slice Aj nj cj).ownBlock) : WkI (w5.setCell ⟨gw, 4, none⟩ v1) base gw gc gm gd t long rows cols S v1 vs vb jobs1 sl best st ∧ w5.heap[gw]? = w4.heap[gw]? ∧ ∀ (B : Nat) (cells : Array Value) (e : TypeId), w4.heap[B]? = some (.cells cells e (0, 0)) → e ≠ 102 → w5.heap[B]? = w4.heap[B]? := by
  have hk : ∀ k, k < w4.heap.size → some k ≠ (Value.slice Aj nj cj).ownBlock → w5.heap[k]? = w4.heap[k]? := fun k hk hne => by
    rw [← hsame] at hk ⊢
    exact hg.block k hk hne
  have notj : ∀ (B : Nat) (cells : Array Value) (e : TypeId), w4.heap[B]? = some (.cells cells e (0, 0)) → e ≠ 102 → w5.heap[B]? = w4.heap[B]? := fun B cells e hc he => hk B (blk_lt hc) (Kd.R_ne h.hJ hc (Ne.symm he))
  have hgw := notj gw _ _ h.hW (by decide)
  exact ⟨wk_jobs h hk ho (fun e => Kd.R_ne ho (hgw.trans h.hW) (by decide) e.symm), hgw, notj⟩
theorem Ck.stay {W W' : World} {g base : Nat} {l : List I5} {a b : Int} {o : List Int} (h : Ck W g l a b o) (hg : g < base) (hb : Below base W W') : Ck W' g l a b o := by
  obtain ⟨w0, A0, c0, A3, c3, h1, h2, h3, h4⟩ := h
  exact ⟨w0, A0, c0, A3, c3, (hb.block g hg).trans h1, h2, h3.trans (hb.mono (by omega)), h4⟩
theorem adv_in {mv : Nat → Nat → Mv} {W : Nat} {long : Bool} {f : Nat} {s : St} {J : List Job} {pc a : Nat} {r : St × List Job × Bool} (h : advV mv W long f s J pc a = some r) (hin : pc * W + a ∈ s.S) : r = (s, J, false) := by
  cases f with
  | zero => cases h
  | succ f => unfold advV at h; rw [if_pos hin] at h; cases h; rfl
theorem adv_out {mv : Nat → Nat → Mv} {W : Nat} {long : Bool} {f : Nat} {s : St} {J : List Job} {pc a : Nat} {r : St × List Job × Bool} (h : advV mv W long f s J pc a = some r) (hin : pc * W + a ∉ s.S) : ∃ g, f = g + 1 ∧ (match mv pc a with
    | .stop => some ({ s with S := (pc * W + a) :: s.S, steps := s.steps + 1 }, J, false)
    | .one p b => advV mv W long g { s with S := (pc * W + a) :: s.S, steps := s.steps + 1 } J p b
    | .two p q b => advV mv W long g { s with S := (pc * W + a) :: s.S, steps := s.steps + 1 } (.visit q b :: J) p b
    | .cap c p b => advV mv W long g { s with S := (pc * W + a) :: s.S, sl := s.sl.set c (a : Int), steps := s.steps + 1 } (.restore c (s.sl.getD c 0) :: J) p b
    | .done => some ({ s with S := (pc * W + a) :: s.S, best := better s.best a s.sl, steps := s.steps + 1 }, J, !long)) = some r := by
  cases f with
  | zero => cases h
  | succ f => unfold advV at h; rw [if_neg hin] at h; exact ⟨f, rfl, h⟩
/-- What stays so while a walker goes. -/
structure AdvI (n b : Nat) (t : ByteArray) (s : St) (J : List Job) (pc a : Nat) : Prop where
  pc : pc < n
  a : a ≤ t.size
  sl : s.sl.length = b
  small : Small (t.size + 1) n s.S
  steps : s.steps ≤ s.S.length
  jobs : J.length ≤ s.S.length + 1
theorem AdvI.next {n b : Nat} {t : ByteArray} {s : St} {J : List Job} {pc a : Nat} (h : AdvI n b t s J pc a) (hn : pc * (t.size + 1) + a ∉ s.S) {J' : List Job} {pc' a' : Nat} {sl' : List Int} {best' : Option (List Int)} (hp : pc' < n) (ha : a' ≤ t.size) (hl : sl'.length = b) (hJ : J'.length ≤ J.length + 1) : AdvI n b t ⟨(pc * (t.size + 1) + a) :: s.S, sl', best', s.steps + 1⟩ J' pc' a' :=
  ⟨hp, ha, hl, ⟨List.nodup_cons.2 ⟨hn, h.small.1⟩, fun k hk => by
    rcases List.mem_cons.1 hk with rfl | hk
    · exact idx_lt _ h.pc (Nat.lt_succ_of_le h.a)
    · exact h.small.2 k hk⟩, by have := h.steps; simp only [List.length_cons]; omega, by have := h.jobs; simp only [List.length_cons]; omega⟩
set_option maxHeartbeats 4000000 in
set_option maxRecDepth 20000 in
theorem advance_at {l : List I5} {a0 b : Int} {o : List Int} (hP : ProgOk l a0 b) (t : ByteArray) (long : Bool) {base gw gc gm gd : Nat} (hgc : gc < base) (hsz : l.length * (t.size + 1) ≤ 262144) (f : Nat) {W : World} {s : St} {J : List Job} {pc a : Nat} {vj vs vb : Value} {r : St × List Job × Bool} (hw : WkI W base gw gc gm gd t long l.length (t.size + 1) s.S vj vs vb J.reverse s.sl s.best s.steps) (hck : Ck W gc l a0 b o) (hbase : base ≤ W.heap.size) (hi : AdvI l.length b.toNat t s J pc a) (hr : advV (mvP l t) (t.size + 1) long f s J pc a = some r) :
    Calls Try.prog 40 #[.pointer (some ⟨gw, 0, none⟩), .int .i64 pc, .int .i64 a] W fun e W' => e = .returned (.bool r.2.2) ∧ (∃ vj' vs' vb', WkI W' base gw gc gm gd t long l.length (t.size + 1) r.1.S vj' vs' vb' r.2.1.reverse r.1.sl r.1.best r.1.steps) ∧ Below base W W' := by
  have HP := Aside0.mk hP
  have HGC := Aside0.mk hgc
  have HSZ := Aside0.mk hsz
  have HW := Aside0.mk hw
  have HK := Aside0.mk hck
  have HBS := Aside0.mk hbase
  have HI := Aside0.mk hi
  have HR := Aside0.mk hr
  have HB := Aside0.mk (Below.refl base W)
  clear hP hgc hsz hw hck hbase hi hr
  obtain ⟨n, hn⟩ : ∃ n, l.length = n := ⟨_, rfl⟩
  have HLN := Aside0.mk hn
  rw [hn] at HW HI HSZ ⊢
  clear hn
  go_enter Try.func40, Try.ntmps40
  go_wp2_with fail
  go_loopg [1, 2] f (fun gk s1 s2 wr => ∃ (s : St) (J : List Job) (pc a : Nat) (vj vs vb : Value), s1 = .int .i64 pc ∧ s2 = .int .i64 a ∧ Aside0 (WkI wr base gw gc gm gd t long n (t.size + 1) s.S vj vs vb J.reverse s.sl s.best s.steps) ∧ Aside0 (AdvI n b.toNat t s J pc a) ∧ Aside0 (advV (mvP l t) (t.size + 1) long gk s J pc a = some r) ∧ Aside0 (Below base W wr))
  case atStart => exact ⟨s, J, pc, a, vj, vs, vb, rfl, rfl, HW, HI, HR, HB⟩
  case round =>
    clear HW HI HR HB
    obtain ⟨s, J, pc, a, vj, vs, vb, rfl, rfl, HW, HI, HR, HB⟩ := hrel
    have e3 : wr.cell? ⟨gw, 3, none⟩ = some (.pointer (some ⟨gm, 0, none⟩)) := (blk_cell HW.out.hW 3).trans rfl
    go_wp2_with fail
    refine (mark_at HW.out.hM HI.out.pc (Nat.lt_succ_of_le HI.out.a) HSZ.out).mono ?_
    rintro e w1 (⟨hin, rfl, rfl⟩ | ⟨hnin, rfl, hM1, v1, rfl⟩)
    · have hr := adv_in HR.out hin
      go_wp2_with fail
      go_ret
      subst hr
      exact ⟨rfl, ⟨vj, vs, vb, HW.out⟩, HB.out⟩
    · clear e3
      obtain ⟨hw1, hb1⟩ := wk_mark HW.out hM1
      obtain ⟨hw2, hb2⟩ := wk_step hw1
      have g7 := (blk_cell hw1.hW 7).trans rfl
      have ff7 := blk_frozen hw1.hW 7
      rw [show ((s.steps + 1 : Nat) : Int) = (s.steps : Int) + 1 from rfl] at hw2 hb2
      have hst : wrap64 ((s.steps : Int) + 1) = (s.steps : Int) + 1 := by
        have h1 := HI.out.steps
        have h2 := small_len _ HI.out.small
        have h3 := HSZ.out
        unfold wrap64
        omega
      have HBW := Aside0.mk (HB.out.trans (hb1.trans hb2))
      have HW2 := Aside0.mk hw2
      have HN := Aside0.mk hnin
      clear hw1 hb1 hw2 hb2 hM1 hnin HB HW
      go_upto_region 3 with fail
      clear g7 ff7 hst
      generalize (wr.setCell ⟨gd, (pc * (t.size + 1) + a) / 64, none⟩ v1).setCell ⟨gw, 7, none⟩ (.int .i64 ((s.steps : Int) + 1)) = w2 at HBW HW2 ⊢
      have e0 : w2.cell? ⟨gw, 0, none⟩ = some (.pointer (some ⟨gc, 0, none⟩)) := (blk_cell HW2.out.hW 0).trans rfl
      have hpc : pc < l.length := by rw [HLN.out]; exact HI.out.pc
      have hci := inst_in (HK.out.stay HGC.out HBW.out) pc hpc (by have := HP.out.len; omega)
      have HX := Aside0.mk (HP.out.inst _ (instAt_mem hpc))
      rw [show l[pc] = instAt l pc by unfold instAt; rw [List.getD_eq_getElem?_getD, List.getElem?_eq_getElem hpc]; rfl] at hci
      have HCI := Aside0.mk hci
      clear hci
      go_wp2_with fail
      refine HCI.out.mono ?_
      rintro e w3 ⟨rfl, hb3⟩
      obtain ⟨x, hx⟩ : ∃ x, instAt l pc = x := ⟨_, rfl⟩
      have HXE := Aside0.mk hx
      rw [hx] at HX ⊢
      clear hx
      obtain ⟨op, lo, hi, X, Y⟩ := x
      have HW3 := Aside0.mk (HW2.out.below hb3)
      have HB3 := Aside0.mk (HBW.out.trans (hb3.mono (Nat.le_trans HBS.out HBW.out.size)))
      clear hb3 HW2 HBW e0
      unfold aggIn
      go_upto_region 4 with fail
      have hal : Below w3.heap.size w3 (w3.alloc (.cells #[.int .i64 op, .int .i64 lo, .int .i64 hi, .int .i64 X, .int .i64 Y] 52)) := (Below.refl _ w3).alloc (Nat.le_refl _) _
      have hbox := heap_alloc_last w3 (.cells #[.int .i64 op, .int .i64 lo, .int .i64 hi, .int .i64 X, .int .i64 Y] 52)
      have HW4 := Aside0.mk (HW3.out.below hal)
      have HB4 := Aside0.mk (HB3.out.trans (hal.mono (Nat.le_trans HBS.out HB3.out.size)))
      have HSB := Aside0.mk (Nat.le_trans HBS.out (Nat.le_trans HB3.out.size hal.size))
      obtain ⟨B, hB⟩ : ∃ B, w3.heap.size = B := ⟨_, rfl⟩
      rw [hB] at hbox ⊢
      generalize w3.alloc (.cells #[.int .i64 op, .int .i64 lo, .int .i64 hi, .int .i64 X, .int .i64 Y] 52) = w4 at hbox HW4 HB4 HSB ⊢
      clear hal hB HW3 HB3
      have HBX := Aside0.mk hbox
      have x0 : w4.cell? ⟨B, 0, none⟩ = some (.int .i64 op) := (blk_cell hbox 0).trans rfl
      have x1 : w4.cell? ⟨B, 1, none⟩ = some (.int .i64 lo) := (blk_cell hbox 1).trans rfl
      have x2 : w4.cell? ⟨B, 2, none⟩ = some (.int .i64 hi) := (blk_cell hbox 2).trans rfl
      have x3 : w4.cell? ⟨B, 3, none⟩ = some (.int .i64 X) := (blk_cell hbox 3).trans rfl
      have x4 : w4.cell? ⟨B, 4, none⟩ = some (.int .i64 Y) := (blk_cell hbox 4).trans rfl
      clear hbox
      obtain ⟨gk', rfl, hr⟩ := adv_out HR.out HN.out
      have hmv : mvP l t pc a = if op = 1 then (if a < t.size ∧ lo ≤ bt t a ∧ bt t a ≤ hi then .one X.toNat (a + 1) else .stop) else if op = 2 then .two X.toNat Y.toNat a else if op = 3 then .cap lo.toNat X.toNat a else if op = 4 then (if holdsV lo t a = true then .one X.toNat a else .stop) else if op = 5 then .done else .stop := by unfold mvP; rw [HXE.out]
      rw [hmv] at hr
      have HR1 := Aside0.mk hr
      clear hr hmv HR
      rcases (show op = 1 ∨ op = 2 ∨ op = 3 ∨ op = 4 ∨ op = 5 ∨ op = 6 by have := HX.out.op; simp only at this; omega) with rfl | rfl | rfl | rfl | rfl | rfl
      · have hr := HR1.out
        simp only [if_true] at hr
        have HR2 := Aside0.mk hr
        have e1 : w4.cell? ⟨gw, 1, none⟩ = some (.string t) := (blk_cell HW4.out.hW 1).trans rfl
        clear hr HR1 x3 x4
        go_upto_region 7 with fail
        by_cases ga : a < t.size
        · have d0 : ((a : Int) == (t.size : Int)) = false := beq_eq_false_iff_ne.2 (by omega)
          have qn : (a < t.size) = True := eq_true ga
          have qi : ((a : Int) < (t.size : Int)) = True := eq_true (by omega)
          have hxn : ∀ h : a < t.size, ((t[a]'h).toNat : Int) = bt t a := fun h => bt_at t (a : Int) h
          have hw1 : wrap64 (bt t a) = bt t a := by unfold wrap64; have := bt_range t a; omega
          have HG := Aside0.mk ga
          clear ga
          obtain ⟨y, hy⟩ : ∃ y, bt t (a : Int) = y := ⟨_, rfl⟩
          rw [hy] at hxn hw1 HR2
          clear hy
          by_cases g1 : y < lo
          · have d1 : decide (y < lo) = true := decide_eq_true g1
            have G1 := Aside0.mk g1
            clear g1
            go_quiet (fail)
            go_wp2_with fail
            go_ret
            have hr := HR2.out
            rw [if_neg (fun hh => by have := G1.out; omega)] at hr
            obtain rfl := Option.some.inj hr
            exact ⟨rfl, ⟨vj, vs, vb, HW4.out.keep (fun _ _ => rfl)⟩, pw_below_drewN HB4.out _⟩
          · have d1 : decide (y < lo) = false := decide_eq_false g1
            have G1 := Aside0.mk g1
            clear g1
            by_cases g2 : hi < y
            · have d2 : decide (hi < y) = true := decide_eq_true g2
              have G2 := Aside0.mk g2
              clear g2
              go_quiet (fail)
              go_wp2_with fail
              go_ret
              have hr := HR2.out
              rw [if_neg (fun hh => by have := G2.out; omega)] at hr
              obtain rfl := Option.some.inj hr
              exact ⟨rfl, ⟨vj, vs, vb, HW4.out.keep (fun _ _ => rfl)⟩, pw_below_drewN HB4.out _⟩
            · have d2 : decide (hi < y) = false := decide_eq_false g2
              have G2 := Aside0.mk g2
              clear g2
              go_quiet (fail)
              have x3 : (w4.drewN nq).cell? ⟨B, 3, none⟩ = some (.int .i64 X) := (blk_cell HBX.out 3).trans rfl
              have hwa : wrap64 ((a : Int) + 1) = (a : Int) + 1 := by have := HG.out; have := HI.out.pc; have := HSZ.out; unfold wrap64; have h5 : t.size + 1 ≤ n * (t.size + 1) := Nat.le_mul_of_pos_left _ (by omega); omega
              have hX := HX.out.X
              simp only at hX
              have hX0 : ((X.toNat : Nat) : Int) = X := Int.toNat_of_nonneg hX.1
              have HX1 := Aside0.mk hX
              clear hX
              have HX0 := Aside0.mk hX0
              clear hX0
              go_wp2_with fail
              go_roundg gk'
              case measure => omega
              case rel =>
                have hr := HR2.out
                rw [if_pos ⟨HG.out, by have := G1.out; omega, by have := G2.out; omega⟩] at hr
                exact ⟨{ s with S := (pc * (t.size + 1) + a) :: s.S, steps := s.steps + 1 }, J, X.toNat, a + 1, vj, vs, vb, by rw [HX0.out], rfl, ⟨HW4.out.keep (fun _ _ => rfl)⟩, ⟨HI.out.next HN.out (by have := HX1.out; have := HLN.out; omega) HG.out HI.out.sl (by omega)⟩, ⟨hr⟩, ⟨pw_below_drewN HB4.out _⟩⟩
        · have hae : (a : Int) = (t.size : Int) := by have := HI.out.a; omega
          have d0 : ((a : Int) == (t.size : Int)) = true := beq_iff_eq.2 hae
          go_quiet (fail)
          go_wp2_with fail
          go_ret
          have hr := HR2.out
          rw [if_neg (fun hh => ga hh.1)] at hr
          obtain rfl := Option.some.inj hr
          exact ⟨rfl, ⟨vj, vs, vb, HW4.out.keep (fun _ _ => rfl)⟩, pw_below_drewN HB4.out _⟩
      · have hr := HR1.out
        simp only [show ¬ (2 : Int) = 1 by decide, if_false, if_true] at hr
        have HR2 := Aside0.mk hr
        clear hr HR1
        have hX := HX.out.X
        have hY := HX.out.Y
        simp only at hX hY
        have HX1 := Aside0.mk hX
        have HY1 := Aside0.mk hY
        obtain ⟨X, rfl⟩ := Int.eq_ofNat_of_zero_le hX.1
        obtain ⟨Y, rfl⟩ := Int.eq_ofNat_of_zero_le hY.1
        clear hX hY
        rw [Int.toNat_natCast, Int.toNat_natCast] at HR2
        obtain ⟨Aj, cj, rfl⟩ := Kd.R_slice HW4.out.hJ
        obtain ⟨nj, hnj⟩ : ∃ nj, J.reverse.length = nj := ⟨_, rfl⟩
        have HNJ := Aside0.mk hnj
        rw [hnj] at HW4
        clear hnj
        have HJL := Aside0.mk (show nj ≤ 300000 from by have h1 := HI.out.jobs; have h2 := small_len _ HI.out.small; have h3 := HSZ.out; have h4 := HNJ.out; rw [List.length_reverse] at h4; omega)
        have e4 : w4.cell? ⟨gw, 4, none⟩ = some (.slice Aj nj cj) := (blk_cell HW4.out.hW 4).trans rfl
        have HGB := Aside0.mk (blk_lt HBX.out)
        have HGW := Aside0.mk (blk_lt HW4.out.hW)
        have HX4 := Aside0.mk x4
        have HE4 := Aside0.mk e4
        go_upto_region 11 with fail
        clear x0 x1 x2 x3 x4
        have ha4 : ∀ o, (w4.alloc o).cell? ⟨gw, 4, none⟩ = some (.slice Aj nj cj) := fun o => (World.cell?_alloc_lt w4 o ⟨gw, 4, none⟩ HGW.out).trans HE4.out
        refine wp_region_noPanic ?_
        refine wp_region_held_drew (S := (fun W => W.cell? ⟨B, 4, none⟩ = some (.int .i64 (Y : Int)))) (by kernel_rfl) ?_ (fun hHeld => ?_)
        · (try dsimp only); first | exact HX4.out | exact HQ5.out | exact HQ6.out | exact (Below.cell (B := w4.heap.size) (w := w4) (p := ⟨B, 4, none⟩) (by repeat (first | exact Below.refl _ _ | apply pw_below_drewN | apply below_drew1 | refine Below.alloc ?_ (Nat.le_refl _) _)) HGB.out).trans HX4.out
        refine wpAnyH_take (i := 0) (v := ?v1100) rfl (by kernel_rfl) (by kernel_rfl) (by kernel_rfl) (fun _ _ _ h => h) (Or.inl ⟨by rfl, ?y1100⟩) (by assumption) ?r1100
        (case y1100 => (intro w hSw; (try dsimp only at hSw); go_simp); all_goals (with_reducible rfl))
        (try simp only [Act.put, List.setIfInBounds_toArray, List.set_cons_zero, List.set_cons_succ])
        refine wpAnyH_take (i := 1) (v := ?v1101) rfl (by kernel_rfl) (by kernel_rfl) (by kernel_rfl) (fun _ _ _ h => h) (Or.inl ⟨by rfl, ?y1101⟩) (by assumption) ?r1101
        (case y1101 => (intro w hSw; (try dsimp only at hSw); go_simp); all_goals (with_reducible rfl))
        (try simp only [Act.put, List.setIfInBounds_toArray, List.set_cons_zero, List.set_cons_succ])
        refine wpAnyH_take (i := 2) (v := ?v1102) rfl (by kernel_rfl) (by kernel_rfl) (by kernel_rfl) (fun _ _ _ h => h) (Or.inl ⟨by rfl, ?y1102⟩) (by assumption) ?r1102
        (case y1102 => (intro w hSw; (try dsimp only at hSw); go_simp); all_goals (with_reducible rfl))
        (try simp only [Act.put, List.setIfInBounds_toArray, List.set_cons_zero, List.set_cons_succ])
        refine wpAnyH_take (i := 3) (v := ?v1103) rfl (by kernel_rfl) (by kernel_rfl) (by kernel_rfl) (fun _ _ _ h => h) (Or.inl ⟨by rfl, ?y1103⟩) (by assumption) ?r1103
        (case y1103 => (intro w hSw; (try dsimp only at hSw); go_simp); all_goals (with_reducible rfl))
        (try simp only [Act.put, List.setIfInBounds_toArray, List.set_cons_zero, List.set_cons_succ])
        refine wpAnyH_take (i := 5) (v := ?v1104) rfl (by kernel_rfl) (by kernel_rfl) (by kernel_rfl) (fun _ _ _ h => h) (Or.inl ⟨by rfl, ?y1104⟩) (by assumption) ?r1104
        (case y1104 => (intro w hSw; (try dsimp only at hSw); go_simp); all_goals (with_reducible rfl))
        (try simp only [Act.put, List.setIfInBounds_toArray, List.set_cons_zero, List.set_cons_succ])
        refine wpAnyH_take (i := 6) (v := ?v1105) rfl (by kernel_rfl) (by kernel_rfl) (by kernel_rfl) (fun _ _ _ h => h) (Or.inl ⟨by rfl, ?y1105⟩) (by assumption) ?r1105
        (case y1105 => (intro w hSw; (try dsimp only at hSw); go_simp); all_goals (with_reducible rfl))
        (try simp only [Act.put, List.setIfInBounds_toArray, List.set_cons_zero, List.set_cons_succ])
        refine wpAnyH_take (i := 7) (v := ?v1106) rfl (by kernel_rfl) (by kernel_rfl) (by kernel_rfl) (fun _ _ _ h => h) (Or.inl ⟨by rfl, ?y1106⟩) (by assumption) ?r1106
        (case y1106 => (intro w hSw; (try dsimp only at hSw); go_simp); all_goals (with_reducible rfl))
        (try simp only [Act.put, List.setIfInBounds_toArray, List.set_cons_zero, List.set_cons_succ])
        refine wpAnyH_take (i := 8) (v := ?v1107) rfl (by kernel_rfl) (by kernel_rfl) (by kernel_rfl) (fun _ _ _ h => h) (Or.inl ⟨by rfl, ?y1107⟩) (by assumption) ?r1107
        (case y1107 => (intro w hSw; (try dsimp only at hSw); go_simp); all_goals (with_reducible rfl))
        (try simp only [Act.put, List.setIfInBounds_toArray, List.set_cons_zero, List.set_cons_succ])
        refine wpAnyH_take (i := 9) (v := ?v1108) rfl (by kernel_rfl) (by kernel_rfl) (by kernel_rfl) (fun _ _ _ h => h) (Or.inl ⟨by rfl, ?y1108⟩) (by assumption) ?r1108
        (case y1108 => (intro w hSw; (try dsimp only at hSw); go_simp); all_goals (with_reducible rfl))
        (try simp only [Act.put, List.setIfInBounds_toArray, List.set_cons_zero, List.set_cons_succ])
        refine wpAnyH_ready (rs := [4, 10]) (by kernel_rfl) (by simp) ?_
        refine AllReadyH.cons rfl (fun K hK => ?_) ?_
        · skip
          go_simp
          refine hK.out _ _ ?_ (fun hHeld => ?_)
          · (try dsimp only); first | exact HX4.out | exact HQ5.out | exact HQ6.out | exact (Below.cell (B := w4.heap.size) (w := w4) (p := ⟨B, 4, none⟩) (by repeat (first | exact Below.refl _ _ | apply pw_below_drewN | apply below_drew1 | refine Below.alloc ?_ (Nat.le_refl _) _)) HGB.out).trans HX4.out
          clear hK K
          (try simp only [Act.put, List.setIfInBounds_toArray, List.set_cons_zero, List.set_cons_succ])
          refine wpAnyH_ready (rs := [10]) (by kernel_rfl) (by simp) ?_
          refine AllReadyH.cons rfl (fun K hK => ?_) AllReadyH.nil
          go_simp
          refine hK.out _ _ ?_ (fun hHeld => ?_)
          · (try dsimp only); first | exact HX4.out | exact HQ5.out | exact HQ6.out | exact (Below.cell (B := w4.heap.size) (w := w4) (p := ⟨B, 4, none⟩) (by repeat (first | exact Below.refl _ _ | apply pw_below_drewN | apply below_drew1 | refine Below.alloc ?_ (Nat.le_refl _) _)) HGB.out).trans HX4.out
          clear hK K
          (try simp only [Act.put, List.setIfInBounds_toArray, List.set_cons_zero, List.set_cons_succ])
          refine wpAnyH_ready (rs := [11]) (by kernel_rfl) (by simp) ?_
          refine AllReadyH.cons rfl (fun K hK => ?_) AllReadyH.nil
          ((refine Kd.R_append_step kJob (w0 := W) (W := w4.drew) base (by rfl) (.tmp 71) (.tmp 77) 61 102 .nilIface 16 (by rfl) Try.underlying61 info_job rfl (by decide) (by omega) (.slice Aj nj cj) J.reverse (Job.visit Y a) [.iface 101 (.agg #[.int .i64 (Y : Int), .int .i64 (a : Int)])] (fun _ => True) (fun _ => False) (by rfl) ?aX ?aP (fun _ hk => hk.elim) (fun _ _ => trivial) ?aO ?aB ?aS ?aL ?_; (case aX => (first | rfl | (simp [Act.eval]; done) | (simp [Act.eval] <;> rfl))); (case aP => exact rfl); (case aO => exact R_stay HW4.out.hJ (fun _ _ => rfl) (fun _ _ => trivial)); (case aB => (repeat (first | exact HB4.out | apply pw_below_drewN | apply below_drew1))); (case aS => exact HSB.out); (case aL => have := HJL.out; have := HNJ.out; omega); intro v1 w5 ho hb hg hat; obtain ⟨A1, c1, e1⟩ := Kd.R_slice ho; obtain ⟨n1, hn1⟩ : ∃ n, (J.reverse ++ [Job.visit Y a]).length = n := ⟨_, rfl⟩; rw [hn1] at e1; subst e1; obtain ⟨hw5, hgw5, hoth⟩ := wk_push (W := w4.drew) HW4.out rfl ho hg; have HW5 := Aside0.mk hw5; have HB5 := Aside0.mk (show Below base W (w5.setCell ⟨gw, 4, none⟩ (.slice A1 n1 c1)) from hb.setCell (p := ⟨gw, 4, none⟩) HW4.out.bw _); have f4 : w5.frozen? ⟨gw, 4, none⟩ = false := blk_frozen (hgw5.trans HW4.out.hW) 4; have f4c : w5.cell? ⟨gw, 4, none⟩ = some (.slice Aj nj cj) := (blk_cell (hgw5.trans HW4.out.hW) 4).trans rfl; have HX5 := Aside0.mk (show (w5.setCell ⟨gw, 4, none⟩ (.slice A1 n1 c1)).heap[B]? = some (.cells #[.int .i64 2, .int .i64 lo, .int .i64 hi, .int .i64 (X : Int), .int .i64 (Y : Int)] 52 (0, 0)) from (Below.heap_setCell _ _ _ _ (show B ≠ gw from blk_ne HBX.out HW4.out.hW (by decide))).trans ((hoth B _ _ HBX.out (by decide)).trans HBX.out)); have HQ5 := Aside0.mk (show w5.cell? ⟨B, 4, none⟩ = some (.int .i64 (Y : Int)) from ((blk_cell ((hoth B _ _ HBX.out (by decide)).trans HBX.out) 4).trans rfl)); have HQ6 := Aside0.mk (show (w5.setCell ⟨gw, 4, none⟩ (.slice A1 n1 c1)).cell? ⟨B, 4, none⟩ = some (.int .i64 (Y : Int)) from (blk_cell HX5.out 4).trans rfl); clear ho hb hg hat hgw5 hoth hw5))
          refine hK.out _ _ ?_ (fun hHeld => ?_)
          · (try dsimp only); first | exact HX4.out | exact HQ5.out | exact HQ6.out | exact (Below.cell (B := w4.heap.size) (w := w4) (p := ⟨B, 4, none⟩) (by repeat (first | exact Below.refl _ _ | apply pw_below_drewN | apply below_drew1 | refine Below.alloc ?_ (Nat.le_refl _) _)) HGB.out).trans HX4.out
          clear hK K
          (try simp only [Act.put, List.setIfInBounds_toArray, List.set_cons_zero, List.set_cons_succ])
          refine wpAnyH_take (i := 12) (v := ?v1109) rfl (by kernel_rfl) (by kernel_rfl) (by kernel_rfl) (fun _ _ _ h => h) (Or.inl ⟨by rfl, ?y1109⟩) (by assumption) ?r1109
          (case y1109 => (intro w hSw; (try dsimp only at hSw); go_simp); all_goals (with_reducible rfl))
          (try simp only [Act.put, List.setIfInBounds_toArray, List.set_cons_zero, List.set_cons_succ])
          refine wpAnyH_take (i := 13) (v := ?v1110) rfl (by kernel_rfl) (by kernel_rfl) (by kernel_rfl) (fun _ _ _ h => h) (Or.inl ⟨by rfl, ?y1110⟩) (by assumption) ?r1110
          (case y1110 => (intro w hSw; (try dsimp only at hSw); go_simp); all_goals (with_reducible rfl))
          (try simp only [Act.put, List.setIfInBounds_toArray, List.set_cons_zero, List.set_cons_succ])
          refine wpAnyH_ready (rs := [14]) (by kernel_rfl) (by simp) ?_
          refine AllReadyH.cons rfl (fun K hK => ?_) AllReadyH.nil
          go_simp
          refine hK.out _ _ ?_ (fun hHeld => ?_)
          · (try dsimp only); first | exact HX4.out | exact HQ5.out | exact HQ6.out | exact (Below.cell (B := w4.heap.size) (w := w4) (p := ⟨B, 4, none⟩) (by repeat (first | exact Below.refl _ _ | apply pw_below_drewN | apply below_drew1 | refine Below.alloc ?_ (Nat.le_refl _) _)) HGB.out).trans HX4.out
          clear hK K
          (try simp only [Act.put, List.setIfInBounds_toArray, List.set_cons_zero, List.set_cons_succ])
          refine wpAnyH_done (by kernel_rfl) ?_ _
          refine NoPanic.normal ?_
          clear f4 f4c e4 ha4
          have x3 : (w5.setCell ⟨gw, 4, none⟩ (.slice A1 n1 c1)).cell? ⟨B, 3, none⟩ = some (.int .i64 (X : Int)) := (blk_cell HX5.out 3).trans rfl
          go_wp2_with fail
          go_roundg gk'
          (case measure => omega)
          (case rel =>
            have hr := HR2.out
            exact ⟨{ s with S := (pc * (t.size + 1) + a) :: s.S, steps := s.steps + 1 }, .visit Y a :: J, X, a, .slice A1 n1 c1, vs, vb, rfl, rfl, ⟨by rw [List.reverse_cons]; exact HW5.out⟩, ⟨HI.out.next HN.out (by have := HX1.out; have := HLN.out; omega) HI.out.a HI.out.sl (by simp)⟩, ⟨hr⟩, HB5⟩)
        refine AllReadyH.cons rfl (fun K hK => ?_) AllReadyH.nil
        go_simp
        refine hK.out _ _ ?_ (fun hHeld => ?_)
        · (try dsimp only); first | exact HX4.out | exact HQ5.out | exact HQ6.out | exact (Below.cell (B := w4.heap.size) (w := w4) (p := ⟨B, 4, none⟩) (by repeat (first | exact Below.refl _ _ | apply pw_below_drewN | apply below_drew1 | refine Below.alloc ?_ (Nat.le_refl _) _)) HGB.out).trans HX4.out
        clear hK K
        (try simp only [Act.put, List.setIfInBounds_toArray, List.set_cons_zero, List.set_cons_succ])
        refine wpAnyH_ready (rs := [4]) (by kernel_rfl) (by simp) ?_
        refine AllReadyH.cons rfl (fun K hK => ?_) AllReadyH.nil
        go_simp
        refine hK.out _ _ ?_ (fun hHeld => ?_)
        · (try dsimp only); first | exact HX4.out | exact HQ5.out | exact HQ6.out | exact (Below.cell (B := w4.heap.size) (w := w4) (p := ⟨B, 4, none⟩) (by repeat (first | exact Below.refl _ _ | apply pw_below_drewN | apply below_drew1 | refine Below.alloc ?_ (Nat.le_refl _) _)) HGB.out).trans HX4.out
        clear hK K
        (try simp only [Act.put, List.setIfInBounds_toArray, List.set_cons_zero, List.set_cons_succ])
        refine wpAnyH_ready (rs := [11]) (by kernel_rfl) (by simp) ?_
        refine AllReadyH.cons rfl (fun K hK => ?_) AllReadyH.nil
        ((refine Kd.R_append_step kJob (w0 := W) (W := w4.drew) base (by rfl) (.tmp 71) (.tmp 77) 61 102 .nilIface 16 (by rfl) Try.underlying61 info_job rfl (by decide) (by omega) (.slice Aj nj cj) J.reverse (Job.visit Y a) [.iface 101 (.agg #[.int .i64 (Y : Int), .int .i64 (a : Int)])] (fun _ => True) (fun _ => False) (by rfl) ?aX ?aP (fun _ hk => hk.elim) (fun _ _ => trivial) ?aO ?aB ?aS ?aL ?_; (case aX => (first | rfl | (simp [Act.eval]; done) | (simp [Act.eval] <;> rfl))); (case aP => exact rfl); (case aO => exact R_stay HW4.out.hJ (fun _ _ => rfl) (fun _ _ => trivial)); (case aB => (repeat (first | exact HB4.out | apply pw_below_drewN | apply below_drew1))); (case aS => exact HSB.out); (case aL => have := HJL.out; have := HNJ.out; omega); intro v1 w5 ho hb hg hat; obtain ⟨A1, c1, e1⟩ := Kd.R_slice ho; obtain ⟨n1, hn1⟩ : ∃ n, (J.reverse ++ [Job.visit Y a]).length = n := ⟨_, rfl⟩; rw [hn1] at e1; subst e1; obtain ⟨hw5, hgw5, hoth⟩ := wk_push (W := w4.drew) HW4.out rfl ho hg; have HW5 := Aside0.mk hw5; have HB5 := Aside0.mk (show Below base W (w5.setCell ⟨gw, 4, none⟩ (.slice A1 n1 c1)) from hb.setCell (p := ⟨gw, 4, none⟩) HW4.out.bw _); have f4 : w5.frozen? ⟨gw, 4, none⟩ = false := blk_frozen (hgw5.trans HW4.out.hW) 4; have f4c : w5.cell? ⟨gw, 4, none⟩ = some (.slice Aj nj cj) := (blk_cell (hgw5.trans HW4.out.hW) 4).trans rfl; have HX5 := Aside0.mk (show (w5.setCell ⟨gw, 4, none⟩ (.slice A1 n1 c1)).heap[B]? = some (.cells #[.int .i64 2, .int .i64 lo, .int .i64 hi, .int .i64 (X : Int), .int .i64 (Y : Int)] 52 (0, 0)) from (Below.heap_setCell _ _ _ _ (show B ≠ gw from blk_ne HBX.out HW4.out.hW (by decide))).trans ((hoth B _ _ HBX.out (by decide)).trans HBX.out)); have HQ5 := Aside0.mk (show w5.cell? ⟨B, 4, none⟩ = some (.int .i64 (Y : Int)) from ((blk_cell ((hoth B _ _ HBX.out (by decide)).trans HBX.out) 4).trans rfl)); have HQ6 := Aside0.mk (show (w5.setCell ⟨gw, 4, none⟩ (.slice A1 n1 c1)).cell? ⟨B, 4, none⟩ = some (.int .i64 (Y : Int)) from (blk_cell HX5.out 4).trans rfl); clear ho hb hg hat hgw5 hoth hw5))
        refine hK.out _ _ ?_ (fun hHeld => ?_)
        · (try dsimp only); first | exact HX4.out | exact HQ5.out | exact HQ6.out | exact (Below.cell (B := w4.heap.size) (w := w4) (p := ⟨B, 4, none⟩) (by repeat (first | exact Below.refl _ _ | apply pw_below_drewN | apply below_drew1 | refine Below.alloc ?_ (Nat.le_refl _) _)) HGB.out).trans HX4.out
        clear hK K
        (try simp only [Act.put, List.setIfInBounds_toArray, List.set_cons_zero, List.set_cons_succ])
        refine wpAnyH_take (i := 12) (v := ?v1111) rfl (by kernel_rfl) (by kernel_rfl) (by kernel_rfl) (fun _ _ _ h => h) (Or.inl ⟨by rfl, ?y1111⟩) (by assumption) ?r1111
        (case y1111 => (intro w hSw; (try dsimp only at hSw); go_simp); all_goals (with_reducible rfl))
        (try simp only [Act.put, List.setIfInBounds_toArray, List.set_cons_zero, List.set_cons_succ])
        refine wpAnyH_take (i := 13) (v := ?v1112) rfl (by kernel_rfl) (by kernel_rfl) (by kernel_rfl) (fun _ _ _ h => h) (Or.inl ⟨by rfl, ?y1112⟩) (by assumption) ?r1112
        (case y1112 => (intro w hSw; (try dsimp only at hSw); go_simp); all_goals (with_reducible rfl))
        (try simp only [Act.put, List.setIfInBounds_toArray, List.set_cons_zero, List.set_cons_succ])
        refine wpAnyH_ready (rs := [14]) (by kernel_rfl) (by simp) ?_
        refine AllReadyH.cons rfl (fun K hK => ?_) AllReadyH.nil
        go_simp
        refine hK.out _ _ ?_ (fun hHeld => ?_)
        · (try dsimp only); first | exact HX4.out | exact HQ5.out | exact HQ6.out | exact (Below.cell (B := w4.heap.size) (w := w4) (p := ⟨B, 4, none⟩) (by repeat (first | exact Below.refl _ _ | apply pw_below_drewN | apply below_drew1 | refine Below.alloc ?_ (Nat.le_refl _) _)) HGB.out).trans HX4.out
        clear hK K
        (try simp only [Act.put, List.setIfInBounds_toArray, List.set_cons_zero, List.set_cons_succ])
        refine wpAnyH_done (by kernel_rfl) ?_ _
        refine NoPanic.normal ?_
        clear f4 f4c e4 ha4
        have x3 : (w5.setCell ⟨gw, 4, none⟩ (.slice A1 n1 c1)).cell? ⟨B, 3, none⟩ = some (.int .i64 (X : Int)) := (blk_cell HX5.out 3).trans rfl
        go_wp2_with fail
        go_roundg gk'
        (case measure => omega)
        (case rel =>
          have hr := HR2.out
          exact ⟨{ s with S := (pc * (t.size + 1) + a) :: s.S, steps := s.steps + 1 }, .visit Y a :: J, X, a, .slice A1 n1 c1, vs, vb, rfl, rfl, ⟨by rw [List.reverse_cons]; exact HW5.out⟩, ⟨HI.out.next HN.out (by have := HX1.out; have := HLN.out; omega) HI.out.a HI.out.sl (by simp)⟩, ⟨hr⟩, HB5⟩)
      · have hr := HR1.out
        simp only [show ¬ (3 : Int) = 1 by decide, show ¬ (3 : Int) = 2 by decide, if_false, if_true] at hr
        have HR2 := Aside0.mk hr
        clear hr HR1
        have hX := HX.out.X
        have hlo := HX.out.cap rfl
        simp only at hX hlo
        have HX1 := Aside0.mk hX
        obtain ⟨X, rfl⟩ := Int.eq_ofNat_of_zero_le hX.1
        obtain ⟨k, rfl⟩ := Int.eq_ofNat_of_zero_le (show (0 : Int) ≤ lo by omega)
        clear hX
        rw [Int.toNat_natCast, Int.toNat_natCast] at HR2
        have hkb : k < s.sl.length := by rw [HI.out.sl]; omega
        obtain ⟨Aj, cj, rfl⟩ := Kd.R_slice HW4.out.hJ
        obtain ⟨gs, cs, rfl, -, -, -⟩ := Kd.R_form HW4.out.hS (by omega)
        have hgsl : w4.cell? ⟨gs, k, none⟩ = some (.int .i64 (s.sl.getD k 0)) := by
          have := (Kd.R_celln 0 HW4.out.hS (k : Int) (by omega) (by omega)).1
          rw [show rdOf 0 s.sl (k : Int) = s.sl.getD k 0 from rd_get s.sl k] at this
          exact this
        have hgst : ∃ cells, w4.heap[gs]? = some (.cells cells 3 (0, 0)) := by
          obtain ⟨_, inner, ho', _⟩ := HW4.out.hS
          exact own_typed ho' gs rfl
        obtain ⟨nj, hnj⟩ : ∃ nj, J.reverse.length = nj := ⟨_, rfl⟩
        obtain ⟨ns, hns⟩ : ∃ ns, s.sl.length = ns := ⟨_, rfl⟩
        have HNJ := Aside0.mk hnj
        have HNS := Aside0.mk hns
        rw [hnj, hns] at HW4
        rw [hns] at hkb
        have HJL := Aside0.mk (show nj ≤ 300000 from by have h1 := HI.out.jobs; have h2 := small_len _ HI.out.small; have h3 := HSZ.out; have h4 := HNJ.out; rw [List.length_reverse] at h4; omega)
        clear hnj hns hlo
        obtain ⟨hd, hhd⟩ : ∃ hd, s.sl.getD k 0 = hd := ⟨_, rfl⟩
        rw [hhd] at hgsl HR2
        have HHD := Aside0.mk hhd
        clear hhd
        have e4 : w4.cell? ⟨gw, 4, none⟩ = some (.slice Aj nj cj) := (blk_cell HW4.out.hW 4).trans rfl
        have e5 : w4.cell? ⟨gw, 5, none⟩ = some (.slice (some ⟨gs, 0, none⟩) ns cs) := (blk_cell HW4.out.hW 5).trans rfl
        have HGB := Aside0.mk (blk_lt HBX.out)
        have HGW := Aside0.mk (blk_lt HW4.out.hW)
        have HGS := Aside0.mk (show gs < w4.heap.size from by obtain ⟨cells, hc⟩ := hgst; exact blk_lt hc)
        have HGT := Aside0.mk hgst
        have HE4 := Aside0.mk e4
        have HQ4 := Aside0.mk (show w4.cell? ⟨B, 1, none⟩ = some (.int .i64 (k : Int)) ∧ w4.cell? ⟨gw, 5, none⟩ = some (.slice (some ⟨gs, 0, none⟩) ns cs) ∧ w4.cell? ⟨gs, k, none⟩ = some (.int .i64 hd) from ⟨x1, e5, hgsl⟩)
        go_upto_region 13 with fail
        clear x0 x1 x2 x3 x4 e5 hgsl hgst
        have ha4 : ∀ o, (w4.alloc o).cell? ⟨gw, 4, none⟩ = some (.slice Aj nj cj) := fun o => (World.cell?_alloc_lt w4 o ⟨gw, 4, none⟩ HGW.out).trans HE4.out
        have hk0 : (0 : Int) ≤ (k : Int) := Int.natCast_nonneg k
        have hk1 : (k : Int) < (ns : Int) := by omega
        refine wp_region_noPanic ?_
        refine wp_region_held_drew (S := (fun W => W.cell? ⟨B, 1, none⟩ = some (.int .i64 (k : Int)) ∧ W.cell? ⟨gw, 5, none⟩ = some (.slice (some ⟨gs, 0, none⟩) ns cs) ∧ W.cell? ⟨gs, k, none⟩ = some (.int .i64 hd))) (by kernel_rfl) ?_ (fun hHeld => ?_)
        · (try dsimp only); first | exact HQ4.out | exact HQ5.out | exact HQ6.out | exact ⟨(Below.cell (B := w4.heap.size) (w := w4) (p := ⟨B, 1, none⟩) (by repeat (first | exact Below.refl _ _ | apply pw_below_drewN | apply below_drew1 | refine Below.alloc ?_ (Nat.le_refl _) _)) HGB.out).trans HQ4.out.1, (Below.cell (B := w4.heap.size) (w := w4) (p := ⟨gw, 5, none⟩) (by repeat (first | exact Below.refl _ _ | apply pw_below_drewN | apply below_drew1 | refine Below.alloc ?_ (Nat.le_refl _) _)) HGW.out).trans HQ4.out.2.1, (Below.cell (B := w4.heap.size) (w := w4) (p := ⟨gs, k, none⟩) (by repeat (first | exact Below.refl _ _ | apply pw_below_drewN | apply below_drew1 | refine Below.alloc ?_ (Nat.le_refl _) _)) HGS.out).trans HQ4.out.2.2⟩
        refine wpAnyH_take (i := 0) (v := ?v1300) rfl (by kernel_rfl) (by kernel_rfl) (by kernel_rfl) (fun _ _ _ h => h) (Or.inl ⟨by rfl, ?y1300⟩) (by assumption) ?r1300
        (case y1300 => (intro w hSw; (try dsimp only at hSw); go_simp); all_goals (with_reducible rfl))
        (try simp only [Act.put, List.setIfInBounds_toArray, List.set_cons_zero, List.set_cons_succ])
        refine wpAnyH_take (i := 1) (v := ?v1301) rfl (by kernel_rfl) (by kernel_rfl) (by kernel_rfl) (fun _ _ _ h => h) (Or.inl ⟨by rfl, ?y1301⟩) (by assumption) ?r1301
        (case y1301 => (intro w hSw; (try dsimp only at hSw); go_simp); all_goals (with_reducible rfl))
        (try simp only [Act.put, List.setIfInBounds_toArray, List.set_cons_zero, List.set_cons_succ])
        refine wpAnyH_take (i := 2) (v := ?v1302) rfl (by kernel_rfl) (by kernel_rfl) (by kernel_rfl) (fun _ _ _ h => h) (Or.inl ⟨by rfl, ?y1302⟩) (by assumption) ?r1302
        (case y1302 => (intro w hSw; (try dsimp only at hSw); go_simp); all_goals (with_reducible rfl))
        (try simp only [Act.put, List.setIfInBounds_toArray, List.set_cons_zero, List.set_cons_succ])
        refine wpAnyH_take (i := 3) (v := ?v1303) rfl (by kernel_rfl) (by kernel_rfl) (by kernel_rfl) (fun _ _ _ h => h) (Or.inl ⟨by rfl, ?y1303⟩) (by assumption) ?r1303
        (case y1303 => (intro w hSw; (try dsimp only at hSw); go_simp); all_goals (with_reducible rfl))
        (try simp only [Act.put, List.setIfInBounds_toArray, List.set_cons_zero, List.set_cons_succ])
        refine wpAnyH_take (i := 5) (v := ?v1304) rfl (by kernel_rfl) (by kernel_rfl) (by kernel_rfl) (fun _ _ _ h => h) (Or.inl ⟨by rfl, ?y1304⟩) (by assumption) ?r1304
        (case y1304 => (intro w hSw; (try dsimp only at hSw); go_simp); all_goals (with_reducible rfl))
        (try simp only [Act.put, List.setIfInBounds_toArray, List.set_cons_zero, List.set_cons_succ])
        refine wpAnyH_take (i := 6) (v := ?v1305) rfl (by kernel_rfl) (by kernel_rfl) (by kernel_rfl) (fun _ _ _ h => h) (Or.inl ⟨by rfl, ?y1305⟩) (by assumption) ?r1305
        (case y1305 => (intro w hSw; (try dsimp only at hSw); go_simp); all_goals (with_reducible rfl))
        (try simp only [Act.put, List.setIfInBounds_toArray, List.set_cons_zero, List.set_cons_succ])
        refine wpAnyH_take (i := 7) (v := ?v1306) rfl (by kernel_rfl) (by kernel_rfl) (by kernel_rfl) (fun _ _ _ h => h) (Or.inl ⟨by rfl, ?y1306⟩) (by assumption) ?r1306
        (case y1306 => (intro w hSw; (try dsimp only at hSw); go_simp); all_goals (with_reducible rfl))
        (try simp only [Act.put, List.setIfInBounds_toArray, List.set_cons_zero, List.set_cons_succ])
        refine wpAnyH_take (i := 8) (v := ?v1307) rfl (by kernel_rfl) (by kernel_rfl) (by kernel_rfl) (fun _ _ _ h => h) (Or.inl ⟨by rfl, ?y1307⟩) (by assumption) ?r1307
        (case y1307 => (intro w hSw; (try dsimp only at hSw); go_simp); all_goals (with_reducible rfl))
        (try simp only [Act.put, List.setIfInBounds_toArray, List.set_cons_zero, List.set_cons_succ])
        refine wpAnyH_take (i := 9) (v := ?v1308) rfl (by kernel_rfl) (by kernel_rfl) (by kernel_rfl) (fun _ _ _ h => h) (Or.inl ⟨by rfl, ?y1308⟩) (by assumption) ?r1308
        (case y1308 => (intro w hSw; (try dsimp only at hSw); go_simp); all_goals (with_reducible rfl))
        (try simp only [Act.put, List.setIfInBounds_toArray, List.set_cons_zero, List.set_cons_succ])
        refine wpAnyH_take (i := 10) (v := ?v1309) rfl (by kernel_rfl) (by kernel_rfl) (by kernel_rfl) (fun _ _ _ h => h) (Or.inl ⟨by rfl, ?y1309⟩) (by assumption) ?r1309
        (case y1309 => (intro w hSw; (try dsimp only at hSw); go_simp); all_goals (with_reducible rfl))
        (try simp only [Act.put, List.setIfInBounds_toArray, List.set_cons_zero, List.set_cons_succ])
        refine wpAnyH_take (i := 11) (v := ?v1310) rfl (by kernel_rfl) (by kernel_rfl) (by kernel_rfl) (fun _ _ _ h => h) (Or.inl ⟨by rfl, ?y1310⟩) (by assumption) ?r1310
        (case y1310 => (intro w hSw; (try dsimp only at hSw); go_simp); all_goals (with_reducible rfl))
        (try simp only [Act.put, List.setIfInBounds_toArray, List.set_cons_zero, List.set_cons_succ])
        refine wpAnyH_take (i := 12) (v := ?v1311) rfl (by kernel_rfl) (by kernel_rfl) (by kernel_rfl) (fun _ _ _ h => h) (Or.inl ⟨by rfl, ?y1311⟩) (by assumption) ?r1311
        (case y1311 => (intro w hSw; (try dsimp only at hSw); go_simp); all_goals (with_reducible rfl))
        (try simp only [Act.put, List.setIfInBounds_toArray, List.set_cons_zero, List.set_cons_succ])
        refine wpAnyH_take (i := 13) (v := ?v1312) rfl (by kernel_rfl) (by kernel_rfl) (by kernel_rfl) (fun _ _ _ h => h) (Or.inl ⟨by rfl, ?y1312⟩) (by assumption) ?r1312
        (case y1312 => (intro w hSw; (try dsimp only at hSw); go_simp); all_goals (with_reducible rfl))
        (try simp only [Act.put, List.setIfInBounds_toArray, List.set_cons_zero, List.set_cons_succ])
        refine wpAnyH_take (i := 14) (v := ?v1313) rfl (by kernel_rfl) (by kernel_rfl) (by kernel_rfl) (fun _ _ _ h => h) (Or.inl ⟨by rfl, ?y1313⟩) (by assumption) ?r1313
        (case y1313 => (intro w hSw; (try dsimp only at hSw); go_simp); all_goals (with_reducible rfl))
        (try simp only [Act.put, List.setIfInBounds_toArray, List.set_cons_zero, List.set_cons_succ])
        refine wpAnyH_take (i := 15) (v := ?v1314) rfl (by kernel_rfl) (by kernel_rfl) (by kernel_rfl) (fun _ _ _ h => h) (Or.inl ⟨by rfl, ?y1314⟩) (by assumption) ?r1314
        (case y1314 => (intro w hSw; (try dsimp only at hSw); go_simp); all_goals (with_reducible rfl))
        (try simp only [Act.put, List.setIfInBounds_toArray, List.set_cons_zero, List.set_cons_succ])
        refine wpAnyH_take (i := 16) (v := ?v1315) rfl (by kernel_rfl) (by kernel_rfl) (by kernel_rfl) (fun _ _ _ h => h) (Or.inl ⟨by rfl, ?y1315⟩) (by assumption) ?r1315
        (case y1315 => (intro w hSw; (try dsimp only at hSw); go_simp); all_goals (with_reducible rfl))
        (try simp only [Act.put, List.setIfInBounds_toArray, List.set_cons_zero, List.set_cons_succ])
        refine wpAnyH_ready (rs := [4, 17]) (by kernel_rfl) (by simp) ?_
        refine AllReadyH.cons rfl (fun K hK => ?_) ?_
        · skip
          go_simp
          refine hK.out _ _ ?_ (fun hHeld => ?_)
          · (try dsimp only); first | exact HQ4.out | exact HQ5.out | exact HQ6.out | exact ⟨(Below.cell (B := w4.heap.size) (w := w4) (p := ⟨B, 1, none⟩) (by repeat (first | exact Below.refl _ _ | apply pw_below_drewN | apply below_drew1 | refine Below.alloc ?_ (Nat.le_refl _) _)) HGB.out).trans HQ4.out.1, (Below.cell (B := w4.heap.size) (w := w4) (p := ⟨gw, 5, none⟩) (by repeat (first | exact Below.refl _ _ | apply pw_below_drewN | apply below_drew1 | refine Below.alloc ?_ (Nat.le_refl _) _)) HGW.out).trans HQ4.out.2.1, (Below.cell (B := w4.heap.size) (w := w4) (p := ⟨gs, k, none⟩) (by repeat (first | exact Below.refl _ _ | apply pw_below_drewN | apply below_drew1 | refine Below.alloc ?_ (Nat.le_refl _) _)) HGS.out).trans HQ4.out.2.2⟩
          clear hK K
          (try simp only [Act.put, List.setIfInBounds_toArray, List.set_cons_zero, List.set_cons_succ])
          refine wpAnyH_ready (rs := [17]) (by kernel_rfl) (by simp) ?_
          refine AllReadyH.cons rfl (fun K hK => ?_) AllReadyH.nil
          go_simp
          refine hK.out _ _ ?_ (fun hHeld => ?_)
          · (try dsimp only); first | exact HQ4.out | exact HQ5.out | exact HQ6.out | exact ⟨(Below.cell (B := w4.heap.size) (w := w4) (p := ⟨B, 1, none⟩) (by repeat (first | exact Below.refl _ _ | apply pw_below_drewN | apply below_drew1 | refine Below.alloc ?_ (Nat.le_refl _) _)) HGB.out).trans HQ4.out.1, (Below.cell (B := w4.heap.size) (w := w4) (p := ⟨gw, 5, none⟩) (by repeat (first | exact Below.refl _ _ | apply pw_below_drewN | apply below_drew1 | refine Below.alloc ?_ (Nat.le_refl _) _)) HGW.out).trans HQ4.out.2.1, (Below.cell (B := w4.heap.size) (w := w4) (p := ⟨gs, k, none⟩) (by repeat (first | exact Below.refl _ _ | apply pw_below_drewN | apply below_drew1 | refine Below.alloc ?_ (Nat.le_refl _) _)) HGS.out).trans HQ4.out.2.2⟩
          clear hK K
          (try simp only [Act.put, List.setIfInBounds_toArray, List.set_cons_zero, List.set_cons_succ])
          refine wpAnyH_ready (rs := [18]) (by kernel_rfl) (by simp) ?_
          refine AllReadyH.cons rfl (fun K hK => ?_) AllReadyH.nil
          ((refine Kd.R_append_step kJob (w0 := W) (W := w4.drew) base (by rfl) (.tmp 87) (.tmp 100) 61 102 .nilIface 16 (by rfl) Try.underlying61 info_job rfl (by decide) (by omega) (.slice Aj nj cj) J.reverse (Job.restore k hd) [.iface 104 (.agg #[.int .i64 (k : Int), .int .i64 hd])] (fun _ => True) (fun _ => False) (by rfl) ?aX ?aP (fun _ hk => hk.elim) (fun _ _ => trivial) ?aO ?aB ?aS ?aL ?_; (case aX => (first | rfl | (simp [Act.eval]; done) | (simp [Act.eval] <;> rfl))); (case aP => exact rfl); (case aO => exact R_stay HW4.out.hJ (fun _ _ => rfl) (fun _ _ => trivial)); (case aB => (repeat (first | exact HB4.out | apply pw_below_drewN | apply below_drew1))); (case aS => exact HSB.out); (case aL => have := HJL.out; have := HNJ.out; omega); intro v1 w5 ho hb hg hat; obtain ⟨A1, c1, e1⟩ := Kd.R_slice ho; obtain ⟨n1, hn1⟩ : ∃ n, (J.reverse ++ [Job.restore k hd]).length = n := ⟨_, rfl⟩; rw [hn1] at e1; subst e1; obtain ⟨hw5, hgw5, hoth⟩ := wk_push (W := w4.drew) HW4.out rfl ho hg; have HW5 := Aside0.mk hw5; have HB5 := Aside0.mk (show Below base W (w5.setCell ⟨gw, 4, none⟩ (.slice A1 n1 c1)) from hb.setCell (p := ⟨gw, 4, none⟩) HW4.out.bw _); have f4 : w5.frozen? ⟨gw, 4, none⟩ = false := blk_frozen (hgw5.trans HW4.out.hW) 4; have f4c : w5.cell? ⟨gw, 4, none⟩ = some (.slice Aj nj cj) := (blk_cell (hgw5.trans HW4.out.hW) 4).trans rfl; have HX5 := Aside0.mk (show (w5.setCell ⟨gw, 4, none⟩ (.slice A1 n1 c1)).heap[B]? = some (.cells #[.int .i64 3, .int .i64 (k : Int), .int .i64 hi, .int .i64 (X : Int), .int .i64 Y] 52 (0, 0)) from (Below.heap_setCell _ _ _ _ (show B ≠ gw from blk_ne HBX.out HW4.out.hW (by decide))).trans ((hoth B _ _ HBX.out (by decide)).trans HBX.out)); have HGT5 := Aside0.mk (show w5.heap[gs]? = w4.heap[gs]? from by obtain ⟨cells, hc⟩ := HGT.out; exact hoth gs _ _ hc (by decide)); have HGN := Aside0.mk (show gs ≠ gw from by obtain ⟨cells, hc⟩ := HGT.out; exact blk_ne hc HW4.out.hW (by decide)); have HQ5 := Aside0.mk (show w5.cell? ⟨B, 1, none⟩ = some (.int .i64 (k : Int)) ∧ w5.cell? ⟨gw, 5, none⟩ = some (.slice (some ⟨gs, 0, none⟩) ns cs) ∧ w5.cell? ⟨gs, k, none⟩ = some (.int .i64 hd) from ⟨((blk_cell ((hoth B _ _ HBX.out (by decide)).trans HBX.out) 1).trans rfl), (blk_cell (hgw5.trans HW4.out.hW) 5).trans rfl, (World.cell?_of_block (a := ⟨gs, k, none⟩) HGT5.out).trans HQ4.out.2.2⟩); have HQ6 := Aside0.mk (show (w5.setCell ⟨gw, 4, none⟩ (.slice A1 n1 c1)).cell? ⟨B, 1, none⟩ = some (.int .i64 (k : Int)) ∧ (w5.setCell ⟨gw, 4, none⟩ (.slice A1 n1 c1)).cell? ⟨gw, 5, none⟩ = some (.slice (some ⟨gs, 0, none⟩) ns cs) ∧ (w5.setCell ⟨gw, 4, none⟩ (.slice A1 n1 c1)).cell? ⟨gs, k, none⟩ = some (.int .i64 hd) from ⟨(blk_cell HX5.out 1).trans rfl, (blk_cell hw5.hW 5).trans rfl, (World.cell?_of_block (a := ⟨gs, k, none⟩) ((Below.heap_setCell _ _ _ _ HGN.out).trans HGT5.out)).trans HQ4.out.2.2⟩); clear ho hb hg hat hgw5 hoth hw5))
          refine hK.out _ _ ?_ (fun hHeld => ?_)
          · (try dsimp only); first | exact HQ4.out | exact HQ5.out | exact HQ6.out | exact ⟨(Below.cell (B := w4.heap.size) (w := w4) (p := ⟨B, 1, none⟩) (by repeat (first | exact Below.refl _ _ | apply pw_below_drewN | apply below_drew1 | refine Below.alloc ?_ (Nat.le_refl _) _)) HGB.out).trans HQ4.out.1, (Below.cell (B := w4.heap.size) (w := w4) (p := ⟨gw, 5, none⟩) (by repeat (first | exact Below.refl _ _ | apply pw_below_drewN | apply below_drew1 | refine Below.alloc ?_ (Nat.le_refl _) _)) HGW.out).trans HQ4.out.2.1, (Below.cell (B := w4.heap.size) (w := w4) (p := ⟨gs, k, none⟩) (by repeat (first | exact Below.refl _ _ | apply pw_below_drewN | apply below_drew1 | refine Below.alloc ?_ (Nat.le_refl _) _)) HGS.out).trans HQ4.out.2.2⟩
          clear hK K
          (try simp only [Act.put, List.setIfInBounds_toArray, List.set_cons_zero, List.set_cons_succ])
          refine wpAnyH_take (i := 19) (v := ?v1316) rfl (by kernel_rfl) (by kernel_rfl) (by kernel_rfl) (fun _ _ _ h => h) (Or.inl ⟨by rfl, ?y1316⟩) (by assumption) ?r1316
          (case y1316 => (intro w hSw; (try dsimp only at hSw); go_simp); all_goals (with_reducible rfl))
          (try simp only [Act.put, List.setIfInBounds_toArray, List.set_cons_zero, List.set_cons_succ])
          refine wpAnyH_take (i := 20) (v := ?v1317) rfl (by kernel_rfl) (by kernel_rfl) (by kernel_rfl) (fun _ _ _ h => h) (Or.inl ⟨by rfl, ?y1317⟩) (by assumption) ?r1317
          (case y1317 => (intro w hSw; (try dsimp only at hSw); go_simp); all_goals (with_reducible rfl))
          (try simp only [Act.put, List.setIfInBounds_toArray, List.set_cons_zero, List.set_cons_succ])
          refine wpAnyH_ready (rs := [21]) (by kernel_rfl) (by simp) ?_
          refine AllReadyH.cons rfl (fun K hK => ?_) AllReadyH.nil
          go_simp
          refine hK.out _ _ ?_ (fun hHeld => ?_)
          · (try dsimp only); first | exact HQ4.out | exact HQ5.out | exact HQ6.out | exact ⟨(Below.cell (B := w4.heap.size) (w := w4) (p := ⟨B, 1, none⟩) (by repeat (first | exact Below.refl _ _ | apply pw_below_drewN | apply below_drew1 | refine Below.alloc ?_ (Nat.le_refl _) _)) HGB.out).trans HQ4.out.1, (Below.cell (B := w4.heap.size) (w := w4) (p := ⟨gw, 5, none⟩) (by repeat (first | exact Below.refl _ _ | apply pw_below_drewN | apply below_drew1 | refine Below.alloc ?_ (Nat.le_refl _) _)) HGW.out).trans HQ4.out.2.1, (Below.cell (B := w4.heap.size) (w := w4) (p := ⟨gs, k, none⟩) (by repeat (first | exact Below.refl _ _ | apply pw_below_drewN | apply below_drew1 | refine Below.alloc ?_ (Nat.le_refl _) _)) HGS.out).trans HQ4.out.2.2⟩
          clear hK K
          (try simp only [Act.put, List.setIfInBounds_toArray, List.set_cons_zero, List.set_cons_succ])
          refine wpAnyH_done (by kernel_rfl) ?_ _
          refine NoPanic.normal ?_
          clear f4 f4c e4 ha4
          have x1 := HQ6.out.1
          have x5 := HQ6.out.2.1
          obtain ⟨hw7, hb7⟩ := wk_slot HW5.out k (a : Int)
          have HGN2 := Aside0.mk (show gs ≠ B from by obtain ⟨cells, hc⟩ := HGT.out; exact blk_ne hc HBX.out (by decide))
          have hfr : (w5.setCell ⟨gw, 4, none⟩ (.slice A1 n1 c1)).frozen? ⟨gs, k, none⟩ = false := by obtain ⟨cells, hc⟩ := HGT.out; exact blk_frozen (((Below.heap_setCell _ _ _ _ HGN.out).trans HGT5.out).trans hc) k
          have HW7 := Aside0.mk hw7
          have HB7 := Aside0.mk (HB5.out.trans hb7)
          have HX7 := Aside0.mk (show ((w5.setCell ⟨gw, 4, none⟩ (.slice A1 n1 c1)).setCell ⟨gs, k, none⟩ (.int .i64 (a : Int))).heap[B]? = some (.cells #[.int .i64 3, .int .i64 (k : Int), .int .i64 hi, .int .i64 (X : Int), .int .i64 Y] 52 (0, 0)) from (Below.heap_setCell _ _ _ _ (Ne.symm HGN2.out)).trans HX5.out)
          clear hw7 hb7 HW5 HB5 HX5 HQ5
          generalize w5.setCell ⟨gw, 4, none⟩ (.slice A1 n1 c1) = w6 at *
          have HQ7 := Aside0.mk (show (w6.setCell ⟨gs, k, none⟩ (.int .i64 (a : Int))).cell? ⟨B, 1, none⟩ = some (.int .i64 (k : Int)) ∧ (w6.setCell ⟨gs, k, none⟩ (.int .i64 (a : Int))).cell? ⟨gw, 5, none⟩ = some (.slice (some ⟨gs, 0, none⟩) ns cs) from ⟨(blk_cell HX7.out 1).trans rfl, (blk_cell HW7.out.hW 5).trans rfl⟩)
          go_upto_region 14 with fail
          go_region_held3 (fun W => W.cell? ⟨B, 1, none⟩ = some (.int .i64 (k : Int)) ∧ W.cell? ⟨gw, 5, none⟩ = some (.slice (some ⟨gs, 0, none⟩) ns cs)) (first | exact ⟨HQ6.out.1, HQ6.out.2.1⟩ | exact HQ7.out) (fail)
          clear x1 x5 hfr
          have x3 : (w6.setCell ⟨gs, k, none⟩ (.int .i64 (a : Int))).cell? ⟨B, 3, none⟩ = some (.int .i64 (X : Int)) := (blk_cell HX7.out 3).trans rfl
          go_wp2_with fail
          go_roundg gk'
          (case measure => omega)
          (case rel =>
            have hr := HR2.out
            have hh := HHD.out
            exact ⟨{ s with S := (pc * (t.size + 1) + a) :: s.S, sl := s.sl.set k (a : Int), steps := s.steps + 1 }, .restore k hd :: J, X, a, .slice A1 n1 c1, .slice (some ⟨gs, 0, none⟩) ns cs, vb, rfl, rfl, ⟨by rw [List.reverse_cons]; exact HW7.out.keep (fun _ _ => rfl)⟩, ⟨HI.out.next HN.out (by have := HX1.out; have := HLN.out; omega) HI.out.a (by rw [List.length_set]; exact HI.out.sl) (by simp)⟩, ⟨hr⟩, ⟨HB7.out.drew⟩⟩)
        refine AllReadyH.cons rfl (fun K hK => ?_) AllReadyH.nil
        go_simp
        refine hK.out _ _ ?_ (fun hHeld => ?_)
        · (try dsimp only); first | exact HQ4.out | exact HQ5.out | exact HQ6.out | exact ⟨(Below.cell (B := w4.heap.size) (w := w4) (p := ⟨B, 1, none⟩) (by repeat (first | exact Below.refl _ _ | apply pw_below_drewN | apply below_drew1 | refine Below.alloc ?_ (Nat.le_refl _) _)) HGB.out).trans HQ4.out.1, (Below.cell (B := w4.heap.size) (w := w4) (p := ⟨gw, 5, none⟩) (by repeat (first | exact Below.refl _ _ | apply pw_below_drewN | apply below_drew1 | refine Below.alloc ?_ (Nat.le_refl _) _)) HGW.out).trans HQ4.out.2.1, (Below.cell (B := w4.heap.size) (w := w4) (p := ⟨gs, k, none⟩) (by repeat (first | exact Below.refl _ _ | apply pw_below_drewN | apply below_drew1 | refine Below.alloc ?_ (Nat.le_refl _) _)) HGS.out).trans HQ4.out.2.2⟩
        clear hK K
        (try simp only [Act.put, List.setIfInBounds_toArray, List.set_cons_zero, List.set_cons_succ])
        refine wpAnyH_ready (rs := [4]) (by kernel_rfl) (by simp) ?_
        refine AllReadyH.cons rfl (fun K hK => ?_) AllReadyH.nil
        go_simp
        refine hK.out _ _ ?_ (fun hHeld => ?_)
        · (try dsimp only); first | exact HQ4.out | exact HQ5.out | exact HQ6.out | exact ⟨(Below.cell (B := w4.heap.size) (w := w4) (p := ⟨B, 1, none⟩) (by repeat (first | exact Below.refl _ _ | apply pw_below_drewN | apply below_drew1 | refine Below.alloc ?_ (Nat.le_refl _) _)) HGB.out).trans HQ4.out.1, (Below.cell (B := w4.heap.size) (w := w4) (p := ⟨gw, 5, none⟩) (by repeat (first | exact Below.refl _ _ | apply pw_below_drewN | apply below_drew1 | refine Below.alloc ?_ (Nat.le_refl _) _)) HGW.out).trans HQ4.out.2.1, (Below.cell (B := w4.heap.size) (w := w4) (p := ⟨gs, k, none⟩) (by repeat (first | exact Below.refl _ _ | apply pw_below_drewN | apply below_drew1 | refine Below.alloc ?_ (Nat.le_refl _) _)) HGS.out).trans HQ4.out.2.2⟩
        clear hK K
        (try simp only [Act.put, List.setIfInBounds_toArray, List.set_cons_zero, List.set_cons_succ])
        refine wpAnyH_ready (rs := [18]) (by kernel_rfl) (by simp) ?_
        refine AllReadyH.cons rfl (fun K hK => ?_) AllReadyH.nil
        ((refine Kd.R_append_step kJob (w0 := W) (W := w4.drew) base (by rfl) (.tmp 87) (.tmp 100) 61 102 .nilIface 16 (by rfl) Try.underlying61 info_job rfl (by decide) (by omega) (.slice Aj nj cj) J.reverse (Job.restore k hd) [.iface 104 (.agg #[.int .i64 (k : Int), .int .i64 hd])] (fun _ => True) (fun _ => False) (by rfl) ?aX ?aP (fun _ hk => hk.elim) (fun _ _ => trivial) ?aO ?aB ?aS ?aL ?_; (case aX => (first | rfl | (simp [Act.eval]; done) | (simp [Act.eval] <;> rfl))); (case aP => exact rfl); (case aO => exact R_stay HW4.out.hJ (fun _ _ => rfl) (fun _ _ => trivial)); (case aB => (repeat (first | exact HB4.out | apply pw_below_drewN | apply below_drew1))); (case aS => exact HSB.out); (case aL => have := HJL.out; have := HNJ.out; omega); intro v1 w5 ho hb hg hat; obtain ⟨A1, c1, e1⟩ := Kd.R_slice ho; obtain ⟨n1, hn1⟩ : ∃ n, (J.reverse ++ [Job.restore k hd]).length = n := ⟨_, rfl⟩; rw [hn1] at e1; subst e1; obtain ⟨hw5, hgw5, hoth⟩ := wk_push (W := w4.drew) HW4.out rfl ho hg; have HW5 := Aside0.mk hw5; have HB5 := Aside0.mk (show Below base W (w5.setCell ⟨gw, 4, none⟩ (.slice A1 n1 c1)) from hb.setCell (p := ⟨gw, 4, none⟩) HW4.out.bw _); have f4 : w5.frozen? ⟨gw, 4, none⟩ = false := blk_frozen (hgw5.trans HW4.out.hW) 4; have f4c : w5.cell? ⟨gw, 4, none⟩ = some (.slice Aj nj cj) := (blk_cell (hgw5.trans HW4.out.hW) 4).trans rfl; have HX5 := Aside0.mk (show (w5.setCell ⟨gw, 4, none⟩ (.slice A1 n1 c1)).heap[B]? = some (.cells #[.int .i64 3, .int .i64 (k : Int), .int .i64 hi, .int .i64 (X : Int), .int .i64 Y] 52 (0, 0)) from (Below.heap_setCell _ _ _ _ (show B ≠ gw from blk_ne HBX.out HW4.out.hW (by decide))).trans ((hoth B _ _ HBX.out (by decide)).trans HBX.out)); have HGT5 := Aside0.mk (show w5.heap[gs]? = w4.heap[gs]? from by obtain ⟨cells, hc⟩ := HGT.out; exact hoth gs _ _ hc (by decide)); have HGN := Aside0.mk (show gs ≠ gw from by obtain ⟨cells, hc⟩ := HGT.out; exact blk_ne hc HW4.out.hW (by decide)); have HQ5 := Aside0.mk (show w5.cell? ⟨B, 1, none⟩ = some (.int .i64 (k : Int)) ∧ w5.cell? ⟨gw, 5, none⟩ = some (.slice (some ⟨gs, 0, none⟩) ns cs) ∧ w5.cell? ⟨gs, k, none⟩ = some (.int .i64 hd) from ⟨((blk_cell ((hoth B _ _ HBX.out (by decide)).trans HBX.out) 1).trans rfl), (blk_cell (hgw5.trans HW4.out.hW) 5).trans rfl, (World.cell?_of_block (a := ⟨gs, k, none⟩) HGT5.out).trans HQ4.out.2.2⟩); have HQ6 := Aside0.mk (show (w5.setCell ⟨gw, 4, none⟩ (.slice A1 n1 c1)).cell? ⟨B, 1, none⟩ = some (.int .i64 (k : Int)) ∧ (w5.setCell ⟨gw, 4, none⟩ (.slice A1 n1 c1)).cell? ⟨gw, 5, none⟩ = some (.slice (some ⟨gs, 0, none⟩) ns cs) ∧ (w5.setCell ⟨gw, 4, none⟩ (.slice A1 n1 c1)).cell? ⟨gs, k, none⟩ = some (.int .i64 hd) from ⟨(blk_cell HX5.out 1).trans rfl, (blk_cell hw5.hW 5).trans rfl, (World.cell?_of_block (a := ⟨gs, k, none⟩) ((Below.heap_setCell _ _ _ _ HGN.out).trans HGT5.out)).trans HQ4.out.2.2⟩); clear ho hb hg hat hgw5 hoth hw5))
        refine hK.out _ _ ?_ (fun hHeld => ?_)
        · (try dsimp only); first | exact HQ4.out | exact HQ5.out | exact HQ6.out | exact ⟨(Below.cell (B := w4.heap.size) (w := w4) (p := ⟨B, 1, none⟩) (by repeat (first | exact Below.refl _ _ | apply pw_below_drewN | apply below_drew1 | refine Below.alloc ?_ (Nat.le_refl _) _)) HGB.out).trans HQ4.out.1, (Below.cell (B := w4.heap.size) (w := w4) (p := ⟨gw, 5, none⟩) (by repeat (first | exact Below.refl _ _ | apply pw_below_drewN | apply below_drew1 | refine Below.alloc ?_ (Nat.le_refl _) _)) HGW.out).trans HQ4.out.2.1, (Below.cell (B := w4.heap.size) (w := w4) (p := ⟨gs, k, none⟩) (by repeat (first | exact Below.refl _ _ | apply pw_below_drewN | apply below_drew1 | refine Below.alloc ?_ (Nat.le_refl _) _)) HGS.out).trans HQ4.out.2.2⟩
        clear hK K
        (try simp only [Act.put, List.setIfInBounds_toArray, List.set_cons_zero, List.set_cons_succ])
        refine wpAnyH_take (i := 19) (v := ?v1318) rfl (by kernel_rfl) (by kernel_rfl) (by kernel_rfl) (fun _ _ _ h => h) (Or.inl ⟨by rfl, ?y1318⟩) (by assumption) ?r1318
        (case y1318 => (intro w hSw; (try dsimp only at hSw); go_simp); all_goals (with_reducible rfl))
        (try simp only [Act.put, List.setIfInBounds_toArray, List.set_cons_zero, List.set_cons_succ])
        refine wpAnyH_take (i := 20) (v := ?v1319) rfl (by kernel_rfl) (by kernel_rfl) (by kernel_rfl) (fun _ _ _ h => h) (Or.inl ⟨by rfl, ?y1319⟩) (by assumption) ?r1319
        (case y1319 => (intro w hSw; (try dsimp only at hSw); go_simp); all_goals (with_reducible rfl))
        (try simp only [Act.put, List.setIfInBounds_toArray, List.set_cons_zero, List.set_cons_succ])
        refine wpAnyH_ready (rs := [21]) (by kernel_rfl) (by simp) ?_
        refine AllReadyH.cons rfl (fun K hK => ?_) AllReadyH.nil
        go_simp
        refine hK.out _ _ ?_ (fun hHeld => ?_)
        · (try dsimp only); first | exact HQ4.out | exact HQ5.out | exact HQ6.out | exact ⟨(Below.cell (B := w4.heap.size) (w := w4) (p := ⟨B, 1, none⟩) (by repeat (first | exact Below.refl _ _ | apply pw_below_drewN | apply below_drew1 | refine Below.alloc ?_ (Nat.le_refl _) _)) HGB.out).trans HQ4.out.1, (Below.cell (B := w4.heap.size) (w := w4) (p := ⟨gw, 5, none⟩) (by repeat (first | exact Below.refl _ _ | apply pw_below_drewN | apply below_drew1 | refine Below.alloc ?_ (Nat.le_refl _) _)) HGW.out).trans HQ4.out.2.1, (Below.cell (B := w4.heap.size) (w := w4) (p := ⟨gs, k, none⟩) (by repeat (first | exact Below.refl _ _ | apply pw_below_drewN | apply below_drew1 | refine Below.alloc ?_ (Nat.le_refl _) _)) HGS.out).trans HQ4.out.2.2⟩
        clear hK K
        (try simp only [Act.put, List.setIfInBounds_toArray, List.set_cons_zero, List.set_cons_succ])
        refine wpAnyH_done (by kernel_rfl) ?_ _
        refine NoPanic.normal ?_
        clear f4 f4c e4 ha4
        have x1 := HQ6.out.1
        have x5 := HQ6.out.2.1
        obtain ⟨hw7, hb7⟩ := wk_slot HW5.out k (a : Int)
        have HGN2 := Aside0.mk (show gs ≠ B from by obtain ⟨cells, hc⟩ := HGT.out; exact blk_ne hc HBX.out (by decide))
        have hfr : (w5.setCell ⟨gw, 4, none⟩ (.slice A1 n1 c1)).frozen? ⟨gs, k, none⟩ = false := by obtain ⟨cells, hc⟩ := HGT.out; exact blk_frozen (((Below.heap_setCell _ _ _ _ HGN.out).trans HGT5.out).trans hc) k
        have HW7 := Aside0.mk hw7
        have HB7 := Aside0.mk (HB5.out.trans hb7)
        have HX7 := Aside0.mk (show ((w5.setCell ⟨gw, 4, none⟩ (.slice A1 n1 c1)).setCell ⟨gs, k, none⟩ (.int .i64 (a : Int))).heap[B]? = some (.cells #[.int .i64 3, .int .i64 (k : Int), .int .i64 hi, .int .i64 (X : Int), .int .i64 Y] 52 (0, 0)) from (Below.heap_setCell _ _ _ _ (Ne.symm HGN2.out)).trans HX5.out)
        clear hw7 hb7 HW5 HB5 HX5 HQ5
        generalize w5.setCell ⟨gw, 4, none⟩ (.slice A1 n1 c1) = w6 at *
        have HQ7 := Aside0.mk (show (w6.setCell ⟨gs, k, none⟩ (.int .i64 (a : Int))).cell? ⟨B, 1, none⟩ = some (.int .i64 (k : Int)) ∧ (w6.setCell ⟨gs, k, none⟩ (.int .i64 (a : Int))).cell? ⟨gw, 5, none⟩ = some (.slice (some ⟨gs, 0, none⟩) ns cs) from ⟨(blk_cell HX7.out 1).trans rfl, (blk_cell HW7.out.hW 5).trans rfl⟩)
        go_upto_region 14 with fail
        go_region_held3 (fun W => W.cell? ⟨B, 1, none⟩ = some (.int .i64 (k : Int)) ∧ W.cell? ⟨gw, 5, none⟩ = some (.slice (some ⟨gs, 0, none⟩) ns cs)) (first | exact ⟨HQ6.out.1, HQ6.out.2.1⟩ | exact HQ7.out) (fail)
        clear x1 x5 hfr
        have x3 : (w6.setCell ⟨gs, k, none⟩ (.int .i64 (a : Int))).cell? ⟨B, 3, none⟩ = some (.int .i64 (X : Int)) := (blk_cell HX7.out 3).trans rfl
        go_wp2_with fail
        go_roundg gk'
        (case measure => omega)
        (case rel =>
          have hr := HR2.out
          have hh := HHD.out
          exact ⟨{ s with S := (pc * (t.size + 1) + a) :: s.S, sl := s.sl.set k (a : Int), steps := s.steps + 1 }, .restore k hd :: J, X, a, .slice A1 n1 c1, .slice (some ⟨gs, 0, none⟩) ns cs, vb, rfl, rfl, ⟨by rw [List.reverse_cons]; exact HW7.out.keep (fun _ _ => rfl)⟩, ⟨HI.out.next HN.out (by have := HX1.out; have := HLN.out; omega) HI.out.a (by rw [List.length_set]; exact HI.out.sl) (by simp)⟩, ⟨hr⟩, ⟨HB7.out.drew⟩⟩)
      · have hr := HR1.out
        simp only [show ¬ (4 : Int) = 1 by decide, show ¬ (4 : Int) = 2 by decide, show ¬ (4 : Int) = 3 by decide, if_false, if_true] at hr
        have HR2 := Aside0.mk hr
        have e1 : w4.cell? ⟨gw, 1, none⟩ = some (.string t) := (blk_cell HW4.out.hW 1).trans rfl
        have HQ4 := Aside0.mk (And.intro x1 e1)
        have hlo := HX.out.holds rfl
        simp only at hlo
        have HH := Aside0.mk (fun w => holds_at lo hlo.1 hlo.2 t (a : Int) (by omega) (by have := HI.out.a; omega) (by have := HSZ.out; have := HI.out.pc; have h5 : t.size + 1 ≤ n * (t.size + 1) := Nat.le_mul_of_pos_left _ (by omega); omega) w)
        have HGB := Aside0.mk (blk_lt HBX.out)
        have HGW := Aside0.mk (blk_lt HW4.out.hW)
        clear hr HR1 x3 x4 x2 hlo
        obtain ⟨hv, hhv⟩ : ∃ hv, holdsV lo t (a : Int) = hv := ⟨_, rfl⟩
        rw [hhv] at HH HR2
        clear hhv
        go_upto_region 16 with fail
        clear x0 x1 e1
        go_region_held3 (fun W => W.cell? ⟨B, 1, none⟩ = some (.int .i64 lo) ∧ W.cell? ⟨gw, 1, none⟩ = some (.string t)) (first | exact HQ4.out | exact HQ5.out) (first | ((go_at_call 68; refine (HH.out _).mono ?_; rintro e w5 ⟨rfl, hb5⟩; have HQ5 := Aside0.mk (show w5.cell? ⟨B, 1, none⟩ = some (.int .i64 lo) ∧ w5.cell? ⟨gw, 1, none⟩ = some (.string t) from And.intro ((hb5.cell (p := ⟨B, 1, none⟩) HGB.out).trans HQ4.out.1) ((hb5.cell (p := ⟨gw, 1, none⟩) HGW.out).trans HQ4.out.2)); have HW5 := Aside0.mk (HW4.out.keep (W' := w5) (fun k hk => hb5.block k hk)); have HB5 := Aside0.mk (show Below base W w5 from by (refine Below.trans (?_ : Below base W _) (hb5.mono HSB.out); repeat (first | exact HB4.out | apply pw_below_drewN | apply below_drew1))); have HX5 := Aside0.mk (show w5.heap[B]? = some (.cells #[.int .i64 4, .int .i64 lo, .int .i64 hi, .int .i64 X, .int .i64 Y] 52 (0, 0)) from (hb5.block B HGB.out).trans HBX.out); clear hb5)))
        cases hv
        · go_wp2_with fail
          go_ret
          have hr := HR2.out
          rw [if_neg (by decide)] at hr
          obtain rfl := Option.some.inj hr
          exact ⟨rfl, ⟨vj, vs, vb, HW5.out⟩, HB5.out⟩
        · have x3 : w5.cell? ⟨B, 3, none⟩ = some (.int .i64 X) := (blk_cell HX5.out 3).trans rfl
          have hX := HX.out.X
          simp only at hX
          have HX1 := Aside0.mk hX
          have HX0 := Aside0.mk (show ((X.toNat : Nat) : Int) = X from Int.toNat_of_nonneg hX.1)
          clear hX
          go_wp2_with fail
          go_roundg gk'
          case measure => omega
          case rel =>
            have hr := HR2.out
            rw [if_pos trivial] at hr
            exact ⟨{ s with S := (pc * (t.size + 1) + a) :: s.S, steps := s.steps + 1 }, J, X.toNat, a, vj, vs, vb, by rw [HX0.out], rfl, HW5, ⟨HI.out.next HN.out (by have := HX1.out; have := HLN.out; omega) HI.out.a HI.out.sl (by omega)⟩, ⟨hr⟩, HB5⟩
      · have hr := HR1.out
        simp only [show ¬ (5 : Int) = 1 by decide, show ¬ (5 : Int) = 2 by decide, show ¬ (5 : Int) = 3 by decide, show ¬ (5 : Int) = 4 by decide, if_false, if_true] at hr
        have HR2 := Aside0.mk hr
        clear hr HR1 x1 x2 x3 x4
        go_wp2_with fail
        refine (match_at HW4.out HSB.out a (by have := HI.out.sl; have := HP.out.slots; omega) (by have := HI.out.sl; have := HP.out.slots; omega)).mono ?_
        rintro e w5 ⟨rfl, ⟨vb', hw5⟩, hb5⟩
        have HW5 := Aside0.mk hw5
        have HB5 := Aside0.mk (HB4.out.trans hb5)
        clear hw5 hb5 x0
        go_wp2_with fail
        go_ret
        obtain rfl := Option.some.inj HR2.out
        exact ⟨rfl, ⟨vj, vs, vb', HW5.out⟩, HB5.out⟩
      · have hr := HR1.out
        simp only [show ¬ (6 : Int) = 1 by decide, show ¬ (6 : Int) = 2 by decide, show ¬ (6 : Int) = 3 by decide, show ¬ (6 : Int) = 4 by decide, show ¬ (6 : Int) = 5 by decide, if_false] at hr
        have HR2 := Aside0.mk hr
        clear hr HR1 x1 x2 x3 x4
        go_wp2_with fail
        go_ret
        obtain rfl := Option.some.inj HR2.out
        exact ⟨rfl, ⟨vj, vs, vb, HW4.out⟩, HB4.out⟩
end Go.Proofs.YtjajehjhonabdaaX
