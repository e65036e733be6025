import Derived.Test.YtcijpncjdccbbaaXCacheGetI
namespace Go.Proofs.YtcijpncjdccbbaaX
open Go.ChangeMaps Go.MapKept Go.RowKit Go.Proofs.YtcijpncjdccbbaaW.PrintWords Go.Proofs.YtcijpncjdccbbaaW.PrintLast Go.Proofs.YtcijpncjdccbbaaW.PrintMore
set_option linter.unusedVariables false
set_option linter.unusedSimpArgs false
set_option maxHeartbeats 1000000 in
theorem linkI_bad (w : World) (base C : Nat) (most fl : Int) (ts : List ThI) (h : CacheI w base C most fl ts) (from_ b to_ : Int) (mark : Bool) (hn : ¬ ((0 ≤ from_ ∧ from_ < ts.length) ∧ (0 ≤ to_ ∧ to_ < ts.length) ∧ 0 ≤ b ∧ b ≤ 256)) :
    Calls Try.prog 25 #[.pointer (some ⟨C, 0, none⟩), .int .i64 from_, .int .i64 b, .int .i64 to_, .bool mark] w fun e w' => e = .returned (.bool false) ∧ w' = w := by
  have H1 := Aside0.mk (hasI w base C most fl ts h from_)
  have H2 := Aside0.mk (hasI w base C most fl ts h to_)
  clear h
  by_cases h1 : 0 ≤ from_ ∧ from_ < ts.length
  · rw [decide_eq_true h1] at H1
    by_cases h2 : 0 ≤ to_ ∧ to_ < ts.length
    · rw [decide_eq_true h2] at H2
      have hb : b < 0 ∨ 256 < b := by omega
      clear hn h1 h2
      go_enter Try.func25, Try.ntmps25
      go_wp2_with fail
      refine H1.out.mono ?_
      rintro e w1 ⟨rfl, rfl⟩
      go_wp2_with fail
      refine H2.out.mono ?_
      rintro e w2 ⟨rfl, rfl⟩
      by_cases hb0 : b < 0
      · clear hb
        go_wp2
        go_ret
        exact ⟨rfl, rfl⟩
      · have hb1 : 256 < b := by omega
        clear hb
        go_wp2
        go_ret
        exact ⟨rfl, rfl⟩
    · rw [decide_eq_false h2] at H2
      clear hn h1 h2
      go_enter Try.func25, Try.ntmps25
      go_wp2_with fail
      refine H1.out.mono ?_
      rintro e w1 ⟨rfl, rfl⟩
      go_wp2_with fail
      refine H2.out.mono ?_
      rintro e w2 ⟨rfl, rfl⟩
      go_wp2
      go_ret
      exact ⟨rfl, rfl⟩
  · rw [decide_eq_false h1] at H1
    clear hn h1 H2
    go_enter Try.func25, Try.ntmps25
    go_wp2_with fail
    refine H1.out.mono ?_
    rintro e w1 ⟨rfl, rfl⟩
    go_wp2
    go_ret
    exact ⟨rfl, rfl⟩
set_option maxHeartbeats 1000000 in
theorem nextI_bad (w : World) (base C : Nat) (most fl : Int) (ts : List ThI) (h : CacheI w base C most fl ts) (from_ b : Int) (hn : ¬ ((0 ≤ from_ ∧ from_ < ts.length) ∧ 0 ≤ b ∧ b ≤ 256)) :
    Calls Try.prog 26 #[.pointer (some ⟨C, 0, none⟩), .int .i64 from_, .int .i64 b] w fun e w' => e = .returned (.tuple #[.int .i64 (-1), .bool false, .bool false]) ∧ w' = w := by
  have H1 := Aside0.mk (hasI w base C most fl ts h from_)
  clear h
  by_cases h1 : 0 ≤ from_ ∧ from_ < ts.length
  · rw [decide_eq_true h1] at H1
    have hb : b < 0 ∨ 256 < b := by omega
    clear hn h1
    go_enter Try.func26, Try.ntmps26
    go_wp2_with fail
    refine H1.out.mono ?_
    rintro e w1 ⟨rfl, rfl⟩
    by_cases hb0 : b < 0
    · clear hb
      go_wp2
      go_ret3
      exact ⟨rfl, rfl⟩
    · have hb1 : 256 < b := by omega
      clear hb
      go_wp2
      go_ret3
      exact ⟨rfl, rfl⟩
  · rw [decide_eq_false h1] at H1
    clear hn h1
    go_enter Try.func26, Try.ntmps26
    go_wp2_with fail
    refine H1.out.mono ?_
    rintro e w1 ⟨rfl, rfl⟩
    go_wp2
    go_ret3
    exact ⟨rfl, rfl⟩
theorem size_link (w : World) : (sizeOf 69).run Try.prog w = .ok 3 w := by kernel_rfl
theorem index_links (p b : Nat) (hb : b ≤ 256) (w : World) : (Instr.indexAt 70 (.pointer (some ⟨p, 1, none⟩)) (.int .i64 b)).run Try.prog w = .ok (.pointer (some ⟨p, 1 + b * 3, none⟩)) w := by
  have hu : Try.prog.underlying 70 = some (.array 257 69) := by kernel_rfl
  have h1 : (0 : Int) ≤ b ∧ (b : Int) < 257 := by omega
  have h2 : (⟨p, 1, none⟩ : Addr).add (b * 3) = ⟨p, 1 + b * 3, none⟩ := by unfold Addr.add; split <;> simp_all
  unfold Instr.indexAt
  simp only [Sem.run_bind, asIntOf, Sem.run_pure, Result.andThen_ok, run_underlying hu, Instr.sureAddr]
  rw [if_pos ⟨h1.1, by omega⟩]
  simp [Sem.run_bind, size_link, h2]
theorem field_links (p : Nat) (w : World) : (Instr.fieldAt 72 (.pointer (some ⟨p, 0, none⟩)) 1).run Try.prog w = .ok (.pointer (some ⟨p, 1, none⟩)) w := by kernel_rfl
set_option maxHeartbeats 1000000 in
theorem nextI (w : World) (base C : Nat) (most fl : Int) (ts : List ThI) (h : CacheI w base C most fl ts) (i : Nat) (hi : i < ts.length) (b : Nat) (hb : b ≤ 256) (l : Int × Bool × Bool) (hl : ts[i].lk b = l) :
    Calls Try.prog 26 #[.pointer (some ⟨C, 0, none⟩), .int .i64 i, .int .i64 b] w fun e w' => e = .returned (.tuple (if l.2.2 = true then #[.int .i64 l.1, .bool l.2.1, .bool true] else #[.int .i64 (-1), .bool false, .bool false])) ∧ Below w.heap.size w w' := by
  have HH := Aside0.mk (hasI w base C most fl ts h i)
  rw [decide_eq_true (show (0 : Int) ≤ i ∧ (i : Int) < ts.length by omega)] at HH
  obtain ⟨M, A, cap, ps, D, h⟩ := h
  have c3 : w.cell? ⟨C, 3, none⟩ = some (.slice A ts.length cap) := (blk_cell h.hC 3).trans rfl
  obtain ⟨ad, p, rfl, hcap, hc, hbp, hkp, _⟩ := thing_at h i hi
  obtain ⟨cells, hk1, hk2, hk3, hk4⟩ := hkp
  obtain ⟨to_, mark, known⟩ := l
  have h4 := hk4 b hb
  rw [hl] at h4
  have d0 : w.cell? ⟨p, 1 + b * 3, none⟩ = some (.int .i64 to_) := (blk_cell hk1 _).trans h4.1
  have d1 : w.cell? ⟨p, 1 + b * 3 + 1, none⟩ = some (.bool mark) := (blk_cell hk1 _).trans h4.2.1
  have d2 : w.cell? ⟨p, 1 + b * 3 + 2, none⟩ = some (.bool known) := (blk_cell hk1 _).trans h4.2.2
  clear hk1 hk2 hk3 hk4 h hl h4
  generalize ts.length = n at *
  have hil := index_links p b hb
  have hfl := field_links p
  go_enter Try.func26, Try.ntmps26
  go_wp2_with fail
  refine HH.out.mono ?_
  rintro e w1 ⟨rfl, rfl⟩
  cases known with
  | false =>
    go_wp2
    go_ret3
    exact ⟨rfl, Below.refl _ _⟩
  | true =>
    have k := heap_alloc_at w1 (.cells #[.int .i64 to_, .bool mark, .bool true] 69)
    have k0 : (w1.alloc (.cells #[.int .i64 to_, .bool mark, .bool true] 69)).cell? ⟨w1.heap.size, 0, none⟩ = some (.int .i64 to_) := (blk_cell k 0).trans rfl
    have k1 : (w1.alloc (.cells #[.int .i64 to_, .bool mark, .bool true] 69)).cell? ⟨w1.heap.size, 1, none⟩ = some (.bool mark) := (blk_cell k 1).trans rfl
    have HB := Aside0.mk (show Below w1.heap.size w1 (w1.alloc (.cells #[.int .i64 to_, .bool mark, .bool true] 69)) from (Below.refl _ w1).alloc (Nat.le_refl _) _)
    clear k
    go_wp2
    go_quiet (fail)
    go_wp2
    go_ret3
    exact ⟨rfl, pw_below_drewN HB.out _⟩
def updL (lk : Nat → Int × Bool × Bool) (b : Nat) (v : Int × Bool × Bool) : Nat → Int × Bool × Bool := fun x => if x = b then v else lk x
theorem repI_link {w : World} {base C : Nat} {most fl : Int} {ts : List ThI} {M : Nat} {A : Option Addr} {cap : Nat} {ps : List Nat} {D : DM} (h : RepI w base C most fl ts M A cap ps D) (i p : Nat) (hi : i < ts.length) (hpi : ps[i]? = some p) (b : Nat) (hb : b ≤ 256) (l : Int × Bool × Bool) :
    RepI (((w.setCell ⟨p, 1 + b * 3, none⟩ (.int .i64 l.1)).setCell ⟨p, 1 + b * 3 + 1, none⟩ (.bool l.2.1)).setCell ⟨p, 1 + b * 3 + 2, none⟩ (.bool l.2.2)) base C most fl (ts.set i ⟨ts[i].key, ts[i].s, updL ts[i].lk b l⟩) M A cap ps D ∧ Below base w (((w.setCell ⟨p, 1 + b * 3, none⟩ (.int .i64 l.1)).setCell ⟨p, 1 + b * 3 + 1, none⟩ (.bool l.2.1)).setCell ⟨p, 1 + b * 3 + 2, none⟩ (.bool l.2.2)) := by
  have hip : i < ps.length := h.hlen ▸ hi
  have epi : ps[i] = p := by rw [List.getElem?_eq_getElem hip] at hpi; exact Option.some.inj hpi
  obtain ⟨hbp, hkp⟩ := h.hk i hip hi
  rw [epi] at hbp hkp
  obtain ⟨cells, hk1, hk2, hk3, hk4⟩ := hkp
  have hh1 := blk_put hk1 (1 + b * 3) (.int .i64 l.1) rfl
  have hh2 := blk_put hh1 (1 + b * 3 + 1) (.bool l.2.1) rfl
  have hh3 := blk_put hh2 (1 + b * 3 + 2) (.bool l.2.2) rfl
  have hot : ∀ k, k ≠ p → (((w.setCell ⟨p, 1 + b * 3, none⟩ (.int .i64 l.1)).setCell ⟨p, 1 + b * 3 + 1, none⟩ (.bool l.2.1)).setCell ⟨p, 1 + b * 3 + 2, none⟩ (.bool l.2.2)).heap[k]? = w.heap[k]? := fun k hk => by
    rw [Below.heap_setCell _ ⟨p, 1 + b * 3 + 2, none⟩ _ k hk, Below.heap_setCell _ ⟨p, 1 + b * 3 + 1, none⟩ _ k hk, Below.heap_setCell _ ⟨p, 1 + b * 3, none⟩ _ k hk]
  have hCp : C ≠ p := fun e => by
    have := h.hC
    rw [e, hk1] at this
    injection this with this
    injection this with _ this
    exact absurd this (by decide)
  have hMp : M ≠ p := fun e => by
    obtain ⟨es, clock, hb, _⟩ := h.hM
    rw [e, hk1] at hb
    cases hb
  have hfar : ∀ (W : World) (cs : Array Value), W.heap[p]? = some (.cells cs 72 (0, 0)) → ∀ {v : Value} (i : Nat) (u : Value), Kd.R kPtr 67 W base (fun _ => True) v ps → Kd.R kPtr 67 (W.setCell ⟨p, i, none⟩ u) base (fun _ => True) v ps := by
    intro W cs hW v i u hR
    refine Kd.R_mono (Kd.R_far (Kd.R_bound hR) (p := ⟨p, i, none⟩) (fun k hk => show k ≠ p from fun e => ?_) _) (fun _ _ => trivial)
    obtain ⟨q, hq, cells, hc⟩ := hk.2.2.2
    rw [e, hW] at hc
    have hq' : q = 67 := by simpa [kPtr, Kd.scalar] using hq
    subst hq'
    cases hc
  refine ⟨⟨?_, h.hbC, h.hbM, ?_, ?_, ?_, ?_, h.hnd, ?_⟩, (((Below.refl base w).setCell (p := ⟨p, 1 + b * 3, none⟩) hbp _).setCell (p := ⟨p, 1 + b * 3 + 1, none⟩) hbp _).setCell (p := ⟨p, 1 + b * 3 + 2, none⟩) hbp _⟩
  · rw [List.length_set]
    exact (hot C hCp).trans h.hC
  · rw [List.length_set]
    exact ((h.hM.setCell (a := ⟨p, 1 + b * 3, none⟩) hMp _).setCell (a := ⟨p, 1 + b * 3 + 1, none⟩) hMp _).setCell (a := ⟨p, 1 + b * 3 + 2, none⟩) hMp _
  · have e : (ts.set i ⟨ts[i].key, ts[i].s, updL ts[i].lk b l⟩).map (fun t => t.key) = ts.map (fun t => t.key) := by
      rw [List.map_set]
      apply List.ext_getElem
      · simp
      · intro k h1 h2
        rw [List.getElem_set]
        split
        · rename_i e
          subst e
          simp
        · rfl
    rw [e]
    exact h.hD
  · rw [List.length_set]
    exact hfar _ _ hh2 _ _ (hfar _ _ hh1 _ _ (hfar _ _ hk1 _ _ h.hR))
  · rw [List.length_set]
    exact h.hlen
  · intro k h1 h2
    by_cases e : k = i
    · subst e
      rw [epi]
      refine ⟨hbp, ?_⟩
      rw [List.getElem_set_self]
      refine ⟨_, hh3, by simp [hk2], ?_, fun x hx => ?_⟩
      · rw [Array.getElem?_setIfInBounds_ne (by omega), Array.getElem?_setIfInBounds_ne (by omega), Array.getElem?_setIfInBounds_ne (by omega)]
        exact hk3
      · by_cases ex : x = b
        · subst ex
          simp only [updL, if_pos]
          refine ⟨?_, ?_, ?_⟩
          · rw [Array.getElem?_setIfInBounds_ne (by omega), Array.getElem?_setIfInBounds_ne (by omega), Array.getElem?_setIfInBounds_self_of_lt (by omega)]
          · rw [Array.getElem?_setIfInBounds_ne (by omega), Array.getElem?_setIfInBounds_self_of_lt (by simp; omega)]
          · rw [Array.getElem?_setIfInBounds_self_of_lt (by simp; omega)]
        · simp only [updL, if_neg ex]
          obtain ⟨a1, a2, a3⟩ := hk4 x hx
          refine ⟨?_, ?_, ?_⟩
          · rw [Array.getElem?_setIfInBounds_ne (by omega), Array.getElem?_setIfInBounds_ne (by omega), Array.getElem?_setIfInBounds_ne (by omega)]
            exact a1
          · rw [Array.getElem?_setIfInBounds_ne (by omega), Array.getElem?_setIfInBounds_ne (by omega), Array.getElem?_setIfInBounds_ne (by omega)]
            exact a2
          · rw [Array.getElem?_setIfInBounds_ne (by omega), Array.getElem?_setIfInBounds_ne (by omega), Array.getElem?_setIfInBounds_ne (by omega)]
            exact a3
    · have hk2' : k < ts.length := by rw [List.length_set] at h2; exact h2
      obtain ⟨hb', hkk⟩ := h.hk k h1 hk2'
      rw [List.getElem_set_ne (fun x => e x.symm)]
      refine ⟨hb', hkk.move (hot _ fun x => e ?_)⟩
      have hx := x.trans epi.symm
      have hpw := List.pairwise_iff_getElem.1 h.hnd
      rcases Nat.lt_trichotomy k i with hlt | he | hgt
      · exact absurd hx (hpw k i h1 hip hlt)
      · exact he
      · exact absurd hx.symm (hpw i k hip h1 hgt)
set_option maxHeartbeats 1000000 in
theorem linkI (w : World) (base C : Nat) (most fl : Int) (ts : List ThI) (h : CacheI w base C most fl ts) (i j : Nat) (hi : i < ts.length) (hj : j < ts.length) (b : Nat) (hb : b ≤ 256) (mark : Bool) :
    Calls Try.prog 25 #[.pointer (some ⟨C, 0, none⟩), .int .i64 i, .int .i64 b, .int .i64 j, .bool mark] w fun e w' => e = .returned (.bool true) ∧ CacheI w' base C most fl (ts.set i ⟨ts[i].key, ts[i].s, updL ts[i].lk b (j, mark, true)⟩) ∧ Below base w w' := by
  have HH := Aside0.mk (hasI w base C most fl ts h i)
  rw [decide_eq_true (show (0 : Int) ≤ i ∧ (i : Int) < ts.length by omega)] at HH
  have HH2 := Aside0.mk (hasI w base C most fl ts h j)
  rw [decide_eq_true (show (0 : Int) ≤ j ∧ (j : Int) < ts.length by omega)] at HH2
  obtain ⟨M, A, cap, ps, D, h⟩ := h
  have c3 : w.cell? ⟨C, 3, none⟩ = some (.slice A ts.length cap) := (blk_cell h.hC 3).trans rfl
  obtain ⟨ad, p, rfl, hcap, hc, hbp, hkp, hpi⟩ := thing_at h i hi
  have HK := Aside0.mk hkp
  obtain ⟨cells, hk1, hk2, hk3, hk4⟩ := hkp
  have h4 := hk4 b hb
  have d0 : w.cell? ⟨p, 1 + b * 3, none⟩ = some (.int .i64 (ts[i].lk b).1) := (blk_cell hk1 _).trans h4.1
  have d1 : w.cell? ⟨p, 1 + b * 3 + 1, none⟩ = some (.bool (ts[i].lk b).2.1) := (blk_cell hk1 _).trans h4.2.1
  have d2 : w.cell? ⟨p, 1 + b * 3 + 2, none⟩ = some (.bool (ts[i].lk b).2.2) := (blk_cell hk1 _).trans h4.2.2
  have f0 : w.frozen? ⟨p, 1 + b * 3, none⟩ = false := blk_frozen hk1 _
  have f1 : w.frozen? ⟨p, 1 + b * 3 + 1, none⟩ = false := blk_frozen hk1 _
  have f2 : w.frozen? ⟨p, 1 + b * 3 + 2, none⟩ = false := blk_frozen hk1 _
  have HREP := Aside0.mk h
  have HPI := Aside0.mk hpi
  clear hk1 hk2 hk3 hk4 h h4 hpi
  obtain ⟨n, hn⟩ : ∃ n, n = ts.length := ⟨_, rfl⟩
  have HN := Aside0.mk hn
  rw [← hn] at c3 hcap
  have hi' : i < n := hn ▸ hi
  have hj' : j < n := hn ▸ hj
  clear hn
  generalize ts[i].lk b = old at d0 d1 d2
  have hil := index_links p b hb
  have hfl := field_links p
  go_enter Try.func25, Try.ntmps25
  go_wp2_with fail
  refine HH.out.mono ?_
  rintro e w1 ⟨rfl, rfl⟩
  go_wp2_with fail
  refine HH2.out.mono ?_
  rintro e w2 ⟨rfl, rfl⟩
  go_wp2
  go_ret
  obtain ⟨hr, hbl⟩ := repI_link HREP.out i p hi HPI.out b hb ((j : Int), mark, true)
  exact ⟨rfl, ⟨M, _, cap, ps, D, hr⟩, hbl⟩
end Go.Proofs.YtcijpncjdccbbaaX
