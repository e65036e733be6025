import Derived.Test.YthblpnfkdkhcpaaXFoldAny
namespace Go.Proofs.YthblpnfkdkhcpaaX
open Go.RowKit Go.Proofs.YthblpnfkdkhcpaaW.PrintWords Go.Proofs.YthblpnfkdkhcpaaW.PrintLast Go.Proofs.YthblpnfkdkhcpaaW.PrintMore
set_option linter.unusedVariables false
set_option linter.unusedSimpArgs false
/-- The variable 'out' at block O holds a row of the call's own, told by acc; S: blocks that the row is none of (O among them). -/
def Col2 (w : World) (O : Nat) (S : Nat → Prop) (W : World) (acc : List (Int × Int)) : Prop :=
  ∃ v, W.heap[O]? = some (.cells #[v] 29 (0, 0)) ∧ Kd.R kRg 55 W w.heap.size (fun k => ¬ S k) v acc ∧ Below w.heap.size w W
theorem Col2.below {w W W' : World} {O : Nat} {S : Nat → Prop} {acc : List (Int × Int)} (h : Col2 w O S W acc) (hb : Below W.heap.size W W') : Col2 w O S W' acc := by
  obtain ⟨v, h1, h2, h4⟩ := h
  exact ⟨v, (hb.block O (blk_lt h1)).trans h1, Kd.R_below h2 hb, h4.trans (hb.mono h4.size)⟩
theorem C_same {w w' : World} {ad : Addr} {n : Nat} {xs : List Int} (h : Kd.C (Kd.int .i64) w (some ad) n xs) (hb : w'.heap[ad.block]? = w.heap[ad.block]?) : Kd.C (Kd.int .i64) w' (some ad) n xs := by
  obtain ⟨h1, h2, h3⟩ := h
  refine ⟨h1, h2, fun hp => ?_⟩
  obtain ⟨ad', he, h4⟩ := h3 hp
  obtain rfl := Option.some.inj he
  refine ⟨ad, rfl, fun j p hj => ?_⟩
  obtain ⟨c, c1, c2, c3⟩ := h4 j p hj
  refine ⟨c, c1, c2, fun i u hi => ?_⟩
  have := c3 i u hi
  have e : ∀ k, (ad.add k).block = ad.block := fun k => by unfold Addr.add; split <;> rfl
  unfold World.cell? at this ⊢
  rw [e] at this ⊢
  rw [hb]
  exact this
def addF (l : List (Int × Int)) (c : Int) : List (Int × Int) := if (famF c).any (hasL l) then (famF c).map (fun r => (r, r)) else []
set_option maxHeartbeats 2000000 in
theorem add_any (w : World) (O B : Nat) (S : Nat → Prop) (hSO : S O) (hwO : w.heap.size ≤ O) (hSB : S B) (Al : Option Addr) (cl : Nat) (l : List (Int × Int))
    (hl : Kd.C kRg w Al l.length l) (c : Int) (hfam : (famF c).length ≤ 100) (acc : List (Int × Int)) (hacc : acc.length ≤ 1000000) (W : World) (hcell : W.heap[B]? = some (.cells #[.slice Al l.length cl] 29 (0, 0))) (hS : ∀ k, S k → k < W.heap.size) (hc : Col2 w O S W acc) :
    Calls Try.prog 34 #[.int .i64 c, .pointer (some ⟨B, 0, none⟩), .pointer (some ⟨O, 0, none⟩)] W fun e w' => e = .returned (.tuple #[]) ∧ Col2 w O S w' (acc ++ addF l c) ∧ ∀ k, S k → k ≠ O → w'.heap[k]? = W.heap[k]? := by
  have HSS := Aside0.mk hS
  clear hS
  have HF := Aside0.mk (family_any c W)
  have HC := Aside0.mk hc
  have HLC := Aside0.mk hl
  have HBX := Aside0.mk hcell
  clear hc hl hcell
  have HCO := Aside0.mk (fun (A : Option Addr) (ca : Nat) (w' : World) (h : Kd.C (Kd.int .i64) w' A (famF c).length (famF c)) (hk : w'.cell? ⟨B, 0, none⟩ = some (.slice Al l.length cl)) (hb : B < w'.heap.size) (h2 : Kd.C kRg w' Al l.length l) => contains_any A ca (famF c) Al cl l B w' hk hb h2 h (by omega))
  unfold addF
  generalize famF c = fam at HF HCO hfam ⊢
  generalize hq : fam.any (hasL l) = q at HCO ⊢
  clear hq
  obtain ⟨T, hT⟩ : ∃ T, T = acc ++ (if q = true then fam.map (fun r => (r, r)) else []) := ⟨_, rfl⟩
  rw [← hT]
  have HT := Aside0.mk hT
  clear hT
  go_enter Try.func34, Try.ntmps34
  go_wp2_with fail
  refine HF.out.mono ?_
  rintro e w1 ⟨v1, rfl, hR1, hb1⟩
  obtain ⟨A1, c1, rfl⟩ := Kd.R_slice hR1
  have HR1 := Aside0.mk hR1
  have HC1 := Aside0.mk (HC.out.below hb1)
  have HS := Aside0.mk (show Col2 w O (fun k => S k ∨ some k = (Value.slice A1 fam.length c1).ownBlock) w1 acc from by
    obtain ⟨v, h1, h2, h4⟩ := HC.out
    exact ⟨v, (hb1.block O (blk_lt h1)).trans h1, Kd.R_mono (Kd.R_elder' h2 (Kd.R_base hR1) hb1) (fun k hk hs => hs.elim hk.1 hk.2), h4.trans (hb1.mono h4.size)⟩)
  have HK1 := Aside0.mk (fun k hk => hb1.block k (HSS.out k hk))
  have HL1 := Aside0.mk (fun k (hk : S k) => Nat.lt_of_lt_of_le (HSS.out k hk) hb1.size)
  have HWW := Aside0.mk (show O < W.heap.size from by
    obtain ⟨v, h1, h2, h4⟩ := HC.out
    exact blk_lt h1)
  clear hR1 hb1 HF HC
  go_wp2_with fail
  refine (HCO.out A1 c1 w1 (Kd.R_reads' HR1.out).2.2 ?_ ?_ ?_).mono ?_
  · exact (blk_cell ((HK1.out B hSB).trans HBX.out) 0).trans rfl
  · exact HL1.out B hSB
  · obtain ⟨v, h1, h2, h4⟩ := HC1.out
    exact Kd.C_below HLC.out h4
  rintro e w2 ⟨rfl, hb2⟩
  have HC2 := Aside0.mk (HC1.out.below hb2)
  have HS2 := Aside0.mk (HS.out.below hb2)
  have HK2 := Aside0.mk (fun k hk => (hb2.block k (HL1.out k hk)).trans (HK1.out k hk))
  have HL2 := Aside0.mk (fun k (hk : S k) => Nat.lt_of_lt_of_le (HL1.out k hk) hb2.size)
  have HF2 := Aside0.mk (Kd.C_below (Kd.R_reads' HR1.out).2.2 hb2)
  clear hb2 HCO HC1 HS
  cases q with
  | false =>
    go_wp2
    go_end0
    refine ⟨rfl, ?_, fun k hk _ => HK2.out k hk⟩
    rw [HT.out, if_neg (by simp), List.append_nil]
    exact HC2.out
  | true =>
    have hT := HT.out
    rw [if_pos rfl] at hT
    clear HT
    have HT := Aside0.mk hT
    obtain ⟨n, hn⟩ : ∃ n, n = fam.length := ⟨_, rfl⟩
    have HN := Aside0.mk hn
    clear hT
    rw [← hn] at HF2 HS2 HR1 hfam ⊢
    clear hn HC2
    have HR2 := Aside0.mk (Kd.R_base HR1.out)
    clear HR1
    go_wp2
    go_loopg [14] n (fun g s14 wr => ∃ k : Nat, k ≤ n ∧ n - k ≤ g ∧ s14 = .int .i64 k ∧ Aside0 (Col2 w O (fun k => S k ∨ some k = (Value.slice A1 n c1).ownBlock) wr (acc ++ (fam.take k).map (fun r => (r, r)))) ∧ Aside0 (Kd.C (Kd.int .i64) wr A1 n fam) ∧ Aside0 (∀ k, S k → k ≠ O → wr.heap[k]? = W.heap[k]?) ∧ Aside0 (∀ k, S k → k < wr.heap.size))
    case atStart => exact ⟨0, by omega, by omega, rfl, by simpa using HS2, HF2, ⟨fun k hk _ => HK2.out k hk⟩, HL2⟩
    case round =>
      clear HS2 HF2 HK2 HL2 HK1 HL1
      obtain ⟨k, hk, hg, rfl, HS, HF, HKK, HLL⟩ := hrel
      by_cases hlt : k < n
      · have hf := HF.out
        obtain ⟨ad, cs, rfl, hcl, hK, hcell⟩ := ReadsRow.get_ hf (0 : Int) (k : Int) (by omega) (by omega)
        have hx : fam.getD ((k : Int)).toNat 0 = fam[k]'(by have := HN.out; omega) := by
          rw [Int.toNat_natCast, List.getD_eq_getElem?_getD, List.getElem?_eq_getElem (by have := HN.out; omega)]
          rfl
        rw [hx] at hK
        have hd : (fam.take (k + 1)).map (fun r => (r, r)) = (fam.take k).map (fun r => (r, r)) ++ [(fam[k]'(by have := HN.out; omega), fam[k]'(by have := HN.out; omega))] := by
          rw [List.take_succ_eq_append_getElem (by have := HN.out; omega), List.map_append]; rfl
        clear hx
        generalize fam[k]'(by have := HN.out; omega) = x at hK hd
        obtain rfl : cs = [.int .i64 x] := hK
        have hc := hcell 0 (.int .i64 x) rfl
        rw [Int.toNat_natCast, show (Kd.int .i64).sz = 1 from rfl, Nat.mul_one, Nat.add_zero] at hc
        have HD := Aside0.mk (show acc ++ (fam.take (k + 1)).map (fun r => (r, r)) = (acc ++ (fam.take k).map (fun r => (r, r))) ++ [(x, x)] by rw [hd, List.append_assoc])
        have hal : (acc ++ (fam.take k).map (fun r => (r, r))).length ≤ 1000100 := by
          rw [List.length_append, List.length_map, List.length_take]; omega
        clear hd hcell hcl hf
        obtain ⟨v, h1, h2, h4⟩ := HS.out
        generalize acc ++ (fam.take k).map (fun r => (r, r)) = ac at h2 hal HD
        have hcO : wr.cell? ⟨O, 0, none⟩ = some v := (blk_cell h1 0).trans rfl
        have hfO := blk_frozen h1 0
        have hOw : O < wr.heap.size := blk_lt h1
        have hOne : O ≠ wr.heap.size := by omega
        have H1 := Aside0.mk h1
        have H2 := Aside0.mk h2
        have H4 := Aside0.mk h4
        clear h1 h2 h4 HS
        have hbl : ad.block < wr.heap.size := by
          have := World.block_lt_of_cell? wr _ hc
          have e : (ad.add k).block = ad.block := by unfold Addr.add; split <;> rfl
          rwa [e] at this
        have hb1 : Below wr.heap.size wr (wr.alloc (.cells #[.int .i64 x, .int .i64 x] 55)) := (Below.refl _ wr).alloc (Nat.le_refl _) _
        have HBA := Aside0.mk hb1
        have HBL := Aside0.mk hbl
        clear hb1 hbl
        go_wp2_with (at_builtin; refine Kd.R_append kRg (w0 := wr) (W := wr) w.heap.size rfl (.tmp 18) (.tmp 22) 29 55 (.agg #[(.int .i64 0), (.int .i64 0)]) 16 rfl Try.underlying29 info_rg rfl (by decide) (by omega) v ac (x, x) [.int .i64 x, .int .i64 x] (fun k => ¬ (S k ∨ some k = (Value.slice (some ad) n c1).ownBlock)) (fun _ => False) rfl ?aX ?aP (fun _ hk => hk.elim) ?aF H2.out (Below.refl _ wr) H4.out.size ?aL ?_; (case aX => (first | rfl | (simp [Act.eval]; done) | (simp [Act.eval] <;> rfl))); (case aP => exact kRg_fixed.make _ _ _ (x, x)); (case aF => exact fun k hk hs => hs.elim (fun h => by have := HLL.out k h; omega) (fun h => by have := HBL.out; simp [Value.ownBlock] at h; omega)); (case aL => omega); intro v1 w3 ho hb hg hat; obtain ⟨A1, c3, e1⟩ := Kd.R_slice ho; have hle : (ac ++ [(x, x)]).length = ac.length + 1 := (by simp); rw [hle] at e1; clear hle; subst e1; have hnv : some O ≠ v.ownBlock := (fun e => H2.out.1 O e.symm (.inl hSO)); have hb1 : w3.heap[O]? = some (.cells #[v] 29 (0, 0)) := (hg.block O hOw hnv).trans H1.out; have hcell1 : w3.cell? ⟨O, 0, none⟩ = some v := (blk_cell hb1 0).trans rfl; have hfr1 : w3.frozen? ⟨O, 0, none⟩ = false := blk_frozen hb1 0; have HO := Aside0.mk ho; have HG := Aside0.mk hg; have HX := Aside0.mk hb1; clear ho hb hg hat hnv hb1)
        go_roundg (n - (k + 1))
        case measure => omega
        case rel =>
          have hadO : ad.block ≠ O := fun e => by have h1 := HR2.out ad.block rfl; have h2 := HWW.out; omega
          refine ⟨k + 1, by omega, by omega, rfl, ⟨⟨(.slice A1 (ac.length + 1) c3), blk_put HX.out 0 _ rfl, ?_, ?_⟩⟩, ⟨C_same HF.out ?_⟩, ⟨fun i hi hiO => ?_⟩, ⟨fun i hi => ?_⟩⟩
          · rw [HD.out]
            exact Kd.R_mono (Kd.R_far (Kd.R_bound HO.out) (p := ⟨O, 0, none⟩) (fun k hk => show k ≠ O from fun e => hk.1 (.inl (e ▸ hSO))) (.slice A1 (ac.length + 1) c3)) (fun _ hk => hk.1)
          · exact (H4.out.grown HG.out H4.out.size (fun k hk => by have := (Kd.R_bound H2.out).1 k hk; omega)).setCell (p := ⟨O, 0, none⟩) hwO (.slice A1 (ac.length + 1) c3)
          · rw [Below.heap_setCell w3 ⟨O, 0, none⟩ (.slice A1 (ac.length + 1) c3) ad.block hadO]
            exact HG.out.block ad.block HBL.out (fun e => H2.out.1 ad.block e.symm (.inr rfl))
          · rw [Below.heap_setCell w3 ⟨O, 0, none⟩ (.slice A1 (ac.length + 1) c3) i hiO]
            exact (HG.out.block i (HLL.out i hi) (fun e => H2.out.1 i e.symm (.inl hi))).trans (HKK.out i hi hiO)
          · exact Nat.lt_of_lt_of_le (HLL.out i hi) (by simpa [World.setCell] using HG.out.size)
      · go_wp2
        go_end0
        refine ⟨rfl, ?_, HKK.out⟩
        obtain ⟨v, h1, h2, h4⟩ := HS.out
        rw [List.take_of_length_le (by have := HN.out; omega)] at h2
        rw [HT.out]
        exact ⟨v, h1, Kd.R_mono h2 (fun _ hk h => hk (.inl h)), h4⟩
end Go.Proofs.YthblpnfkdkhcpaaX
