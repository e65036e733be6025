import Derived.Test.YtcijpncjdccbbaaXCachePutI
namespace Go.Proofs.YtcijpncjdccbbaaX
open Go.ChangeMaps Go.MapKept Go.RowKit Go.Proofs.YtcijpncjdccbbaaW.PrintWords Go.Proofs.YtcijpncjdccbbaaW.PrintLast Go.Proofs.YtcijpncjdccbbaaW.PrintMore
set_option linter.unusedVariables false
set_option linter.unusedSimpArgs false
theorem putI_hit (w : World) (base C : Nat) (most fl : Int) (ts : List ThI) (h : CacheI w base C most fl ts) (key : ByteArray) (hkey : key.size ≤ maxLen) (r : Int) (hr : Stands ts key r) (h0 : 0 ≤ r) (s : Int) :
    Calls Try.prog 8 #[.pointer (some ⟨C, 0, none⟩), .string key, .int .i64 s] w fun e w' => e = .returned (.int .i64 r) ∧ Below w.heap.size w w' := by
  have HF := Aside0.mk (findI w base C most fl ts h key hkey r hr)
  clear h hr
  go_enter Try.func8, Try.ntmps8
  go_wp2_with fail
  refine HF.out.mono ?_
  rintro e w1 ⟨rfl, hb1⟩
  go_wp2
  go_ret
  exact ⟨rfl, hb1⟩
theorem getI_none (w : World) (base C : Nat) (most fl : Int) (ts : List ThI) (h : CacheI w base C most fl ts) (n : Int) (hn : ¬ (0 ≤ n ∧ n < ts.length)) :
    Calls Try.prog 11 #[.pointer (some ⟨C, 0, none⟩), .int .i64 n] w fun e w' => e = .returned (.pointer none) ∧ w' = w := by
  have HH := Aside0.mk (hasI w base C most fl ts h n)
  rw [decide_eq_false hn] at HH
  clear h hn
  go_enter Try.func11, Try.ntmps11
  go_wp2_with fail
  refine HH.out.mono ?_
  rintro e w1 ⟨rfl, rfl⟩
  go_wp2
  go_ret
  exact ⟨rfl, rfl⟩
/-- A thing's place. -/
theorem thing_at {w : World} {base C : Nat} {most fl : Int} {ts : List ThI} {M : Nat} {A : Option Addr} {cap : Nat} {ps : List Nat} {D : DM} (h : RepI w base C most fl ts M A cap ps D) (i : Nat) (hi : i < ts.length) :
    ∃ (ad : Addr) (p : Nat), A = some ad ∧ ts.length ≤ cap ∧ w.cell? (ad.add i) = some (.pointer (some ⟨p, 0, none⟩)) ∧ base ≤ p ∧ KeptI w p ts[i].s ts[i].lk ∧ ps[i]? = some p := by
  have hf := (Kd.R_reads' h.hR)
  have hp : i < ps.length := h.hlen ▸ hi
  have hl := hf.2.1
  have hc := hf.2.2
  obtain ⟨ad, cs, e1, hcl, hK, hcell⟩ := ReadsRow.get_ hc (0 : Nat) (i : Int) (by omega) (by omega)
  have hx : ps.getD ((i : Int)).toNat 0 = ps[i] := by
    rw [Int.toNat_natCast, List.getD_eq_getElem?_getD, List.getElem?_eq_getElem hp]
    rfl
  rw [hx] at hK
  obtain rfl : cs = [.pointer (some ⟨ps[i], 0, none⟩)] := hK
  have hcc := hcell 0 _ rfl
  rw [Int.toNat_natCast, show kPtr.sz = 1 from rfl, Nat.mul_one, Nat.add_zero] at hcc
  exact ⟨ad, ps[i], e1, h.hlen ▸ hl, hcc, (h.hk i hp hi).1, (h.hk i hp hi).2, List.getElem?_eq_getElem hp⟩
set_option maxHeartbeats 1000000 in
theorem getI (w : World) (base C : Nat) (most fl : Int) (ts : List ThI) (h : CacheI w base C most fl ts) (i : Nat) (hi : i < ts.length) (s : Int) (hs : ts[i].s = s) :
    Calls Try.prog 11 #[.pointer (some ⟨C, 0, none⟩), .int .i64 i] w fun e w' => ∃ q, e = .returned (.pointer (some ⟨q, 0, none⟩)) ∧ w'.heap[q]? = some (.cells #[.int .i64 s] 3 (0, 0)) ∧ w.heap.size ≤ q ∧ Below w.heap.size w w' := by
  have HH := Aside0.mk (hasI w base C most fl ts h i)
  rw [decide_eq_true (show (0 : Int) ≤ i ∧ (i : Int) < ts.length by omega)] at HH
  obtain ⟨M, A, cap, ps, D, h⟩ := h
  have c3 : w.cell? ⟨C, 3, none⟩ = some (.slice A ts.length cap) := (blk_cell h.hC 3).trans rfl
  obtain ⟨ad, p, rfl, hcap, hc, hbp, hkp, _⟩ := thing_at h i hi
  obtain ⟨cells, hk1, hk2, hk3, hk4⟩ := hkp
  have hcs : w.cell? ⟨p, 0, none⟩ = some (.int .i64 s) := (blk_cell hk1 0).trans (hs ▸ hk3)
  clear hk1 hk2 hk3 hk4 h hs
  generalize ts.length = n at *
  go_enter Try.func11, Try.ntmps11
  go_wp2_with fail
  refine HH.out.mono ?_
  rintro e w1 ⟨rfl, rfl⟩
  go_wp2
  go_ret
  exact ⟨w1.heap.size, rfl, heap_alloc_at w1 _, Nat.le_refl _, (Below.refl _ w1).alloc (Nat.le_refl _) _⟩
end Go.Proofs.YtcijpncjdccbbaaX
