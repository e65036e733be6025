import Derived.Test.YtoihlfiacnljhaaXBandsB
namespace Go.Proofs.YtoihlfiacnljhaaX
open Go.RowKit Go.Proofs.YtoihlfiacnljhaaW.PrintWords Go.Proofs.YtoihlfiacnljhaaW.PrintLast Go.Proofs.YtoihlfiacnljhaaW.PrintMore
set_option linter.unusedVariables false
section
variable {α β : Type} {d : Kd α} {d' : Kd β} {g : α → β} {f : β → α} {w : World} {A : Option Addr} {n e base t : Nat} {ok : Nat → Prop} {v : Value}
theorem slice_K {xs : List β} {cs : List Value} : (Kd.slice t (Kd.iso d f)).K w xs cs ↔ (Kd.slice t d).K w (xs.map f) cs := by
  constructor
  · rintro ⟨A, c, rfl, hl, hr⟩
    exact ⟨A, c, by rw [List.length_map], by rw [List.length_map]; exact hl, by rw [List.length_map]; exact C_iso.1 hr⟩
  · rintro ⟨A, c, rfl, hl, hr⟩
    rw [List.length_map] at hl hr
    exact ⟨A, c, by rw [List.length_map], hl, C_iso.2 hr⟩
theorem slice_M {xs : List β} {cs : List Value} : (Kd.slice t (Kd.iso d f)).M w base ok xs cs ↔ (Kd.slice t d).M w base ok (xs.map f) cs := by
  constructor
  · rintro ⟨v, rfl, hr⟩
    exact ⟨v, rfl, R_iso.1 hr⟩
  · rintro ⟨v, rfl, hr⟩
    exact ⟨v, rfl, R_iso.2 hr⟩
theorem C_via (hs : d.sz = d'.sz) (hK : ∀ w x cs, d.K w x cs ↔ d'.K w (g x) cs) {xs : List α} : Kd.C d w A n xs ↔ Kd.C d' w A n (xs.map g) := by
  constructor
  · rintro ⟨h1, h2, h3⟩
    refine ⟨by simpa using h1, h2, fun h => ?_⟩
    obtain ⟨ad, rfl, h4⟩ := h3 h
    refine ⟨ad, rfl, fun j p hp => ?_⟩
    rw [List.getElem?_map] at hp
    obtain ⟨x, hx, rfl⟩ := Option.map_eq_some_iff.1 hp
    obtain ⟨c, c1, c2, c3⟩ := h4 j x hx
    exact ⟨c, hs ▸ c1, (hK _ _ _).1 c2, hs ▸ c3⟩
  · rintro ⟨h1, h2, h3⟩
    refine ⟨by simpa using h1, h2, fun h => ?_⟩
    obtain ⟨ad, rfl, h4⟩ := h3 h
    refine ⟨ad, rfl, fun j p hp => ?_⟩
    obtain ⟨c, c1, c2, c3⟩ := h4 j (g p) (by rw [List.getElem?_map, hp]; rfl)
    exact ⟨c, hs ▸ c1, (hK _ _ _).2 c2, hs ▸ c3⟩
theorem R_via (hs : d.sz = d'.sz) (hM : ∀ w base ok x cs, d.M w base ok x cs ↔ d'.M w base ok (g x) cs) {xs : List α} : Kd.R d e w base ok v xs ↔ Kd.R d' e w base ok v (xs.map g) := by
  have hf : d.M w base (fun k => ok k ∧ some k ≠ v.ownBlock) = fun x c => d'.M w base (fun k => ok k ∧ some k ≠ v.ownBlock) (g x) c := by
    funext x c
    exact propext (hM _ _ _ _ _)
  constructor
  · rintro ⟨h1, inner, ho, hr⟩
    rw [hf, hs] at hr
    rw [hs] at ho
    exact ⟨h1, inner, by rw [List.length_map]; exact ho, reps_map.1 hr⟩
  · rintro ⟨h1, inner, ho, hr⟩
    rw [List.length_map, ← hs] at ho
    refine ⟨h1, inner, ho, ?_⟩
    rw [hf, hs]
    exact reps_map (R := d'.M w base fun k => ok k ∧ some k ≠ v.ownBlock).2 hr
theorem S_via (hs : d.sz = d'.sz) (hM : ∀ w base ok x cs, d.M w base ok x cs ↔ d'.M w base ok (g x) cs) {xs : List α} : Kd.S d e w base ok v xs ↔ Kd.S d' e w base ok v (xs.map g) := by
  have hz : (xs.map g).zipIdx = xs.zipIdx.map (Prod.map g id) := by rw [List.zipIdx_map]
  have key : ∀ f, (Kd.tag f d).R e w base ok v xs.zipIdx ↔ (Kd.tag f d').R e w base ok v (xs.map g).zipIdx := fun f => by
    rw [hz]
    exact R_via (d := Kd.tag f d) (d' := Kd.tag f d') (g := Prod.map g id) hs (fun w base ok x cs => hM w base (fun k => ok k ∧ f k = x.2) x.1 cs)
  constructor
  · rintro ⟨f, h⟩
    exact ⟨f, (key f).1 h⟩
  · rintro ⟨f, h⟩
    exact ⟨f, (key f).2 h⟩
end
end Go.Proofs.YtoihlfiacnljhaaX
