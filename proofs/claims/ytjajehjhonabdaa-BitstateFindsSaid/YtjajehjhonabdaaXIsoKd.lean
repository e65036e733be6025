import Derived.Test.YtjajehjhonabdaaWMore
namespace Go.Proofs.YtjajehjhonabdaaX
open Go.RowKit Go.Proofs.YtjajehjhonabdaaW.PrintWords
section
variable {α β : Type} {d : Kd α} {f : β → α} {w : World} {A : Option Addr} {n e base : Nat} {ok : Nat → Prop} {v : Value}
theorem reps_map {R : α → List Value → Prop} {size : Nat} {xs : List β} {cs : List Value} : Reps (fun x c => R (f x) c) size xs cs ↔ Reps R size (xs.map f) cs := by
  constructor
  · rintro ⟨h1, h2⟩
    refine ⟨by simpa using h1, fun j p hp => ?_⟩
    rw [List.getElem?_map] at hp
    obtain ⟨x, hx, rfl⟩ := Option.map_eq_some_iff.1 hp
    exact h2 j x hx
  · rintro ⟨h1, h2⟩
    refine ⟨by simpa using h1, fun j p hp => ?_⟩
    exact h2 j (f p) (by rw [List.getElem?_map, hp]; rfl)
theorem C_iso {xs : List β} : Kd.C (Kd.iso d f) w A n xs ↔ Kd.C d w A n (xs.map f) := by
  constructor
  · rintro ⟨h1, h2, h3⟩
    refine ⟨by simpa using h1, h2, fun h => ?_⟩
    obtain ⟨ad, rfl, h4⟩ := h3 h
    refine ⟨ad, rfl, fun j p hp => ?_⟩
    rw [List.getElem?_map] at hp
    obtain ⟨x, hx, rfl⟩ := Option.map_eq_some_iff.1 hp
    exact h4 j x hx
  · rintro ⟨h1, h2, h3⟩
    refine ⟨by simpa using h1, h2, fun h => ?_⟩
    obtain ⟨ad, rfl, h4⟩ := h3 h
    exact ⟨ad, rfl, fun j p hp => h4 j (f p) (by rw [List.getElem?_map, hp]; rfl)⟩
theorem R_iso {xs : List β} : Kd.R (Kd.iso d f) e w base ok v xs ↔ Kd.R d e w base ok v (xs.map f) := by
  constructor
  · rintro ⟨h1, inner, ho, hr⟩
    exact ⟨h1, inner, by rw [List.length_map]; exact ho, reps_map.1 hr⟩
  · rintro ⟨h1, inner, ho, hr⟩
    rw [List.length_map] at ho
    exact ⟨h1, inner, ho, reps_map (R := d.M w base fun k => ok k ∧ some k ≠ v.ownBlock).2 hr⟩
end
end Go.Proofs.YtjajehjhonabdaaX
