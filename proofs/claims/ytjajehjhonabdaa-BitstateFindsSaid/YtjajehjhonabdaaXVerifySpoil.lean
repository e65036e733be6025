import Derived.Test.YtjajehjhonabdaaXVerifyNew
namespace Go.Proofs.YtjajehjhonabdaaX
open Go.RowKit Go.Proofs.YtjajehjhonabdaaW.PrintWords Go.Proofs.YtjajehjhonabdaaW.PrintLast Go.Proofs.YtjajehjhonabdaaW.PrintMore
set_option linter.unusedVariables false
set_option linter.unusedSimpArgs false
theorem below_put' {base : Nat} {w W : World} (h : Below base w W) {g i : Nat} (hg : base ≤ g) (u : Value) : Below base w (W.setCell ⟨g, i, none⟩ u) := h.setCell hg _
set_option maxHeartbeats 1000000 in
theorem spoil_ints (l : List Int) (w : World) (base : Nat) (ok : Nat → Prop) (v : Value) (hR : Kd.R (Kd.int .i64) 3 w base ok v l) :
    Calls Try.prog 13 #[v] w (fun e w' => e = .returned (.tuple #[]) ∧ Below base w w' ∧ ∀ k, some k ≠ v.ownBlock → w'.heap[k]? = w.heap[k]?) := by
  have hB := Below.refl base w
  have hO := ((fixed_R kI_fixed).1 hR).2
  rw [show kI.sz = 1 from rfl] at hO
  clear hR
  generalize l.length = n at hO
  rcases hO.2 with ⟨rfl, rfl⟩ | ⟨g, cap, cur, rfl, hg, hh, hle, hmax, hsz, _⟩
  · have HB := Aside0.mk hB
    clear hB
    go_enter Try.func13, Try.ntmps13
    go_wp2
    go_loopg [9] 0 (fun gh s9 wr => s9 = .int .i64 0 ∧ w = wr)
    case atStart => exact ⟨rfl, rfl⟩
    case round =>
      obtain ⟨rfl, rfl⟩ := hrel
      go_wp2
      go_end0
      exact ⟨rfl, HB.out, fun _ _ => rfl⟩
  · have HB := Aside0.mk hB
    have HH := Aside0.mk (show ∃ cur' : Array Value, cur'.size = cap ∧ w.heap[g]? = some (.cells cur' 3 (0, 0)) from ⟨cur, by omega, hh⟩)
    have HM := Aside0.mk hmax
    clear hB hh hsz hmax
    go_enter Try.func13, Try.ntmps13
    go_wp2
    go_loopg [9] cap (fun gh s9 wr => ∃ k : Nat, k ≤ cap ∧ cap - k ≤ gh ∧ s9 = .int .i64 k ∧ Aside0 (∃ cur' : Array Value, cur'.size = cap ∧ wr.heap[g]? = some (.cells cur' 3 (0, 0))) ∧ Aside0 (Below base w wr) ∧ Aside0 (∀ k, k ≠ g → wr.heap[k]? = w.heap[k]?))
    case atStart => exact ⟨0, by omega, by omega, rfl, HH, HB, ⟨fun _ _ => rfl⟩⟩
    case round =>
      clear HH HB
      obtain ⟨k, hk, hgh, rfl, HH, HB, HO⟩ := hrel
      have hm := HM.out
      unfold maxLen at hm
      by_cases hlt : k < cap
      · obtain ⟨cur', hs', hh'⟩ := HH.out
        have c0 : wr.cell? ⟨g, k, none⟩ = some (cur'[k]'(by omega)) := (blk_cell hh' _).trans (Array.getElem?_eq_getElem _)
        have f0 := blk_frozen hh' k
        generalize cur'[k]'(by omega) = o0 at c0
        have HH' := Aside0.mk (And.intro hs' hh')
        clear hs' hh' HH hm
        go_wp2
        have hm := HM.out
        unfold maxLen at hm
        go_roundg (cap - (k + 1))
        case measure => omega
        case rel =>
          obtain ⟨hs', hh'⟩ := HH'.out
          exact ⟨k + 1, by omega, by omega, by rw [show wrap64 ((k : Int) + 1) = ((k + 1 : Nat) : Int) by unfold wrap64; omega], ⟨_, by rw [Array.size_setIfInBounds]; exact hs', blk_put hh' k _ rfl⟩, ⟨below_put' HB.out hg _⟩, ⟨fun k hk => by rw [Below.heap_setCell _ _ _ k hk]; exact HO.out k hk⟩⟩
      · go_wp2
        go_end0
        exact ⟨rfl, HB.out, fun k hk => HO.out k (fun e => hk (by rw [e]; rfl))⟩
end Go.Proofs.YtjajehjhonabdaaX
