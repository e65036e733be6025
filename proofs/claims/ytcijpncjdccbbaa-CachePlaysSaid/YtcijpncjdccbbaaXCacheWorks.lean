import Derived.Test.YtcijpncjdccbbaaXCacheLinkI
namespace Go.Proofs.YtcijpncjdccbbaaX
open Go.ChangeMaps Go.MapKept Go.RowKit Go.Proofs.YtcijpncjdccbbaaW.PrintWords Go.Proofs.YtcijpncjdccbbaaW.PrintLast Go.Proofs.YtcijpncjdccbbaaW.PrintMore
set_option linter.unusedVariables false
set_option linter.unusedSimpArgs false
set_option maxHeartbeats 1000000 in
theorem works_any (w : World) : Calls Try.prog 6 #[] w fun e w' => e = .returned (.bool true) ∧ Below w.heap.size w w' := by
  have HN := Aside0.mk (newI 1 (by omega) (by omega) w)
  go_enter Try.func6, Try.ntmps6
  go_wp2_with fail
  refine HN.out.mono ?_
  rintro e w1 ⟨C, rfl, hC1, hb1⟩
  have HC1 := Aside0.mk hC1
  have HB1 := Aside0.mk hb1
  clear hC1 hb1 HN
  go_wp2_with fail
  refine (putI_new w1 w.heap.size C 1 0 [] 0 rfl HC1.out HB1.out.size (by omega) ⟨#[97]⟩ (by decide) (fun t ht => by cases ht) (by omega) 5).mono ?_
  rintro e w2 ⟨rfl, hC2, hb2⟩
  have HC2 := Aside0.mk hC2
  have HB2 := Aside0.mk (HB1.out.trans hb2)
  clear hC2 hb2 HC1 HB1
  go_wp2_with fail
  refine (putI_full w2 w.heap.size C 1 0 _ 1 rfl HC2.out HB2.out.size (by omega) ⟨#[98]⟩ (by decide) (fun t ht => by have : t.key = ⟨#[97]⟩ := (by simp at ht; rw [ht]); rw [this]; decide) (by omega) (by omega) (by omega) 6).mono ?_
  rintro e w3 ⟨rfl, hC3, hb3⟩
  have HC3 := Aside0.mk hC3
  have HB3 := Aside0.mk (HB2.out.trans hb3)
  clear hC3 hb3 HC2 HB2
  go_wp2_with fail
  refine (getI w3 w.heap.size C 1 (0 + 1) _ HC3.out 0 (by simp) 6 rfl).mono ?_
  rintro e w4 ⟨q, rfl, hq, hqw, hb4⟩
  have HC4 := Aside0.mk (HC3.out.below hb4)
  have HB4 := Aside0.mk (HB3.out.trans (hb4.mono HB3.out.size))
  have HQ := Aside0.mk hq
  clear hb4 hq HC3 HB3
  go_wp2_with fail
  refine (flushesI w4 w.heap.size C 1 (0 + 1) _ HC4.out).mono ?_
  rintro e w5 ⟨rfl, rfl⟩
  go_wp2_with fail
  refine (findI w5 w.heap.size C 1 (0 + 1) _ HC4.out ⟨#[97]⟩ (by decide) (-1) (.inr ⟨fun t ht => by have : t.key = ⟨#[98]⟩ := (by simp at ht; rw [ht]); rw [this]; decide, rfl⟩)).mono ?_
  rintro e w6 ⟨rfl, hb6⟩
  have HC6 := Aside0.mk (HC4.out.below hb6)
  have HB6 := Aside0.mk (HB4.out.trans (hb6.mono HB4.out.size))
  have HQ6 := Aside0.mk ((hb6.block q (blk_lt HQ.out)).trans HQ.out)
  clear hb6 HC4 HB4 HQ
  go_wp2_with fail
  refine (findI w6 w.heap.size C 1 (0 + 1) _ HC6.out ⟨#[98]⟩ (by decide) 0 (.inl ⟨0, by simp, rfl, rfl⟩)).mono ?_
  rintro e w7 ⟨rfl, hb7⟩
  have HC7 := Aside0.mk (HC6.out.below hb7)
  have HB7 := Aside0.mk (HB6.out.trans (hb7.mono HB6.out.size))
  have hq7 := (hb7.block q (blk_lt HQ6.out)).trans HQ6.out
  have hqc : w7.cell? ⟨q, 0, none⟩ = some (.int .i64 6) := (blk_cell hq7 0).trans rfl
  clear hb7 HC6 HB6 HQ6 hq7
  go_wp2_with fail
  refine (lenI w7 w.heap.size C 1 (0 + 1) _ HC7.out).mono ?_
  rintro e w8 ⟨rfl, rfl⟩
  go_wp2
  go_ret
  exact ⟨rfl, HB7.out⟩
def nextAns (lk : Nat → Int × Bool × Bool) (d : Int) : Array Value := if 0 ≤ d ∧ d ≤ 256 ∧ (lk d.toNat).2.2 = true then #[.int .i64 (lk d.toNat).1, .bool (lk d.toNat).2.1, .bool true] else #[.int .i64 (-1), .bool false, .bool false]
theorem nextI_any (w : World) (base C : Nat) (most fl : Int) (ts : List ThI) (h : CacheI w base C most fl ts) (i : Nat) (hi : i < ts.length) (d : Int) (ans : Array Value) (ha : ans = nextAns ts[i].lk d) :
    Calls Try.prog 26 #[.pointer (some ⟨C, 0, none⟩), .int .i64 i, .int .i64 d] w fun e w' => e = .returned (.tuple ans) ∧ Below w.heap.size w w' := by
  subst ha
  by_cases hd : 0 ≤ d ∧ d ≤ 256
  · have e : ((d.toNat : Nat) : Int) = d := by omega
    have := nextI w base C most fl ts h i hi d.toNat (by omega) _ rfl
    rw [e] at this
    refine this.mono fun e w' ⟨he, hb⟩ => ⟨?_, hb⟩
    rw [he]
    unfold nextAns
    by_cases hk : (ts[i].lk d.toNat).2.2 = true
    · rw [if_pos hk, if_pos ⟨hd.1, hd.2, hk⟩]
    · rw [if_neg hk, if_neg (fun x => hk x.2.2)]
  · refine (nextI_bad w base C most fl ts h i d (fun x => hd x.2)).mono fun e w' ⟨he, hw⟩ => ⟨?_, hw ▸ Below.refl _ _⟩
    rw [he]
    unfold nextAns
    rw [if_neg (fun x => hd ⟨x.1, x.2.1⟩)]
end Go.Proofs.YtcijpncjdccbbaaX
