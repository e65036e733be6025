import Derived.Test.YtjajehjhonabdaaProg
import Derived.Test.YtjajehjhonabdaaXBitA
import Derived.Test.YtjajehjhonabdaaXVerifyMore
namespace Go.Proofs.YtjajehjhonabdaaX.Bit
set_option linter.unusedVariables false
/-! All ways by priority, and the machine with a stack that goes through them. -/
/-- Where an instruction leads at a place. -/
inductive Mv where
  | stop
  | one (p a : Nat)
  | two (p q a : Nat)
  | cap (c p a : Nat)
  | done
/-- What is left to do. -/
inductive Job where
  | visit (pc a : Nat)
  | restore (k : Nat) (had : Int)
abbrev Ways := List (Nat × List Int)
def addWay (ws : Ways) (e : Nat) (sl : List Int) : Ways := if ws.any (fun w => w.1 == e) then ws else ws ++ [(e, sl)]
section
variable (mv : Nat → Nat → Mv) (W : Nat)
/-- All ways by priority, each pair once. -/
def dfs : Nat → List Nat → Ways → Nat → Nat → List Int → Option (List Nat × Ways)
  | 0, _, _, _, _, _ => none
  | f + 1, S, ws, pc, a, sl => if pc * W + a ∈ S then some (S, ws) else match mv pc a with
    | .stop => some ((pc * W + a) :: S, ws)
    | .one p b => dfs f ((pc * W + a) :: S) ws p b sl
    | .two p q b => (dfs f ((pc * W + a) :: S) ws p b sl).bind fun r => dfs f r.1 r.2 q b sl
    | .cap c p b => dfs f ((pc * W + a) :: S) ws p b (sl.set c (a : Int))
    | .done => some ((pc * W + a) :: S, addWay ws a sl)
theorem dfs_mono : ∀ (f : Nat) {S ws pc a sl r}, dfs mv W f S ws pc a sl = some r → dfs mv W (f + 1) S ws pc a sl = some r
  | 0, _, _, _, _, _, _, h => by cases h
  | f + 1, S, ws, pc, a, sl, r, h => by
    unfold dfs at h ⊢
    split
    · rename_i g; rw [if_pos g] at h; exact h
    · rename_i g
      rw [if_neg g] at h
      cases hm : mv pc a with
      | stop => rw [hm] at h; exact h
      | one p b => rw [hm] at h; exact dfs_mono f h
      | cap c p b => rw [hm] at h; exact dfs_mono f h
      | done => rw [hm] at h; exact h
      | two p q b =>
        rw [hm] at h
        dsimp only at h ⊢
        obtain ⟨x, hx, h2⟩ := Option.bind_eq_some_iff.1 h
        rw [dfs_mono f hx, Option.bind_some]
        exact dfs_mono f h2
theorem dfs_le {f g : Nat} (h : f ≤ g) {S ws pc a sl r} (hr : dfs mv W f S ws pc a sl = some r) : dfs mv W g S ws pc a sl = some r := by
  obtain ⟨d, rfl⟩ : ∃ d, g = f + d := ⟨g - f, by omega⟩
  clear h
  induction d with
  | zero => exact hr
  | succ d ih => exact dfs_mono mv W _ ih
/-- Pairs: all moves stay among them. -/
def Fits (N : Nat) : Prop := ∀ pc a, pc < N → a < W → match mv pc a with
  | .stop => True
  | .one p b => p < N ∧ b < W
  | .two p q b => p < N ∧ q < N ∧ b < W
  | .cap _ p b => p < N ∧ b < W
  | .done => True
theorem idx_lt {N pc a : Nat} (hp : pc < N) (ha : a < W) : pc * W + a < N * W := by
  have : (pc + 1) * W ≤ N * W := Nat.mul_le_mul_right W hp
  rw [Nat.add_mul, Nat.one_mul] at this
  omega
def Small (N : Nat) (S : List Nat) : Prop := S.Nodup ∧ ∀ k ∈ S, k < N * W
theorem nodup_len : ∀ (n : Nat) (S : List Nat), S.Nodup → (∀ k ∈ S, k < n) → S.length ≤ n
  | 0, [], _, _ => Nat.le_refl _
  | 0, x :: t, _, h => absurd (h x List.mem_cons_self) (Nat.not_lt_zero _)
  | n + 1, S, hN, h => by
    have h1 : (S.erase n).length ≤ n := nodup_len n (S.erase n) (hN.erase n) (fun k hk => by
      have := (List.Nodup.mem_erase_iff hN).1 hk
      have := h k this.2
      omega)
    have h2 := List.length_erase (a := n) (l := S)
    split at h2 <;> omega
theorem small_len {N : Nat} {S : List Nat} (h : Small W N S) : S.length ≤ N * W := nodup_len _ S h.1 h.2
theorem dfs_ends {N : Nat} (hF : Fits mv W N) : ∀ (m : Nat) (S : List Nat) (ws : Ways) (pc a : Nat) (sl : List Int), Small W N S → N * W - S.length ≤ m → pc < N → a < W → ∃ r, dfs mv W (m + 1) S ws pc a sl = some r ∧ Small W N r.1 ∧ S.length ≤ r.1.length
  | m, S, ws, pc, a, sl, hS, hm, hp, ha => by
    unfold dfs
    by_cases g : pc * W + a ∈ S
    · exact ⟨(S, ws), by rw [if_pos g], hS, Nat.le_refl _⟩
    · rw [if_neg g]
      have hS2 : Small W N ((pc * W + a) :: S) := ⟨List.nodup_cons.2 ⟨g, hS.1⟩, fun k hk => by
        rcases List.mem_cons.1 hk with rfl | hk
        · exact idx_lt W hp ha
        · exact hS.2 k hk⟩
      have hl := small_len W hS2
      rw [List.length_cons] at hl
      obtain ⟨m, rfl⟩ : ∃ m', m = m' + 1 := ⟨m - 1, by omega⟩
      have hm2 : N * W - ((pc * W + a) :: S).length ≤ m := by rw [List.length_cons]; omega
      have hf := hF pc a hp ha
      cases hv : mv pc a with
      | stop => exact ⟨_, rfl, hS2, by simp⟩
      | done => exact ⟨_, rfl, hS2, by simp⟩
      | one p b =>
        rw [hv] at hf
        obtain ⟨r, h1, h2, h3⟩ := dfs_ends hF m ((pc * W + a) :: S) ws p b sl hS2 hm2 hf.1 hf.2
        exact ⟨r, h1, h2, by rw [List.length_cons] at h3; omega⟩
      | cap c p b =>
        rw [hv] at hf
        obtain ⟨r, h1, h2, h3⟩ := dfs_ends hF m ((pc * W + a) :: S) ws p b (sl.set c (a : Int)) hS2 hm2 hf.1 hf.2
        exact ⟨r, h1, h2, by rw [List.length_cons] at h3; omega⟩
      | two p q b =>
        rw [hv] at hf
        obtain ⟨r, h1, h2, h3⟩ := dfs_ends hF m ((pc * W + a) :: S) ws p b sl hS2 hm2 hf.1 hf.2.2
        rw [List.length_cons] at h3 hm2
        obtain ⟨r', h1', h2', h3'⟩ := dfs_ends hF m r.1 r.2 q b sl h2 (by omega) hf.2.1 hf.2.2
        exact ⟨r', by dsimp only; rw [h1, Option.bind_some]; exact h1', h2', by omega⟩
/-- Only more pairs; the ways go on. -/
theorem dfs_grows : ∀ (f : Nat) {S ws pc a sl r}, dfs mv W f S ws pc a sl = some r → (∀ k ∈ S, k ∈ r.1) ∧ (∃ t, r.2 = ws ++ t) ∧ pc * W + a ∈ r.1
  | 0, _, _, _, _, _, _, h => by cases h
  | f + 1, S, ws, pc, a, sl, r, h => by
    unfold dfs at h
    split at h
    · rename_i g; cases h; exact ⟨fun k hk => hk, ⟨[], by simp⟩, g⟩
    · cases hm : mv pc a with
      | stop => rw [hm] at h; cases h; exact ⟨fun k hk => List.mem_cons_of_mem _ hk, ⟨[], by simp⟩, List.mem_cons_self⟩
      | done =>
        rw [hm] at h
        cases h
        refine ⟨fun k hk => List.mem_cons_of_mem _ hk, ?_, List.mem_cons_self⟩
        show ∃ t, addWay ws a sl = ws ++ t
        unfold addWay
        split
        · exact ⟨[], by simp⟩
        · exact ⟨_, rfl⟩
      | one p b =>
        rw [hm] at h
        obtain ⟨h1, h2, _⟩ := dfs_grows f h
        exact ⟨fun k hk => h1 k (List.mem_cons_of_mem _ hk), h2, h1 _ List.mem_cons_self⟩
      | cap c p b =>
        rw [hm] at h
        obtain ⟨h1, h2, _⟩ := dfs_grows f h
        exact ⟨fun k hk => h1 k (List.mem_cons_of_mem _ hk), h2, h1 _ List.mem_cons_self⟩
      | two p q b =>
        rw [hm] at h
        obtain ⟨x, hx, h'⟩ := Option.bind_eq_some_iff.1 h
        obtain ⟨h1, ⟨t1, h2⟩, _⟩ := dfs_grows f hx
        obtain ⟨h3, ⟨t2, h4⟩, _⟩ := dfs_grows f h'
        exact ⟨fun k hk => h3 _ (h1 k (List.mem_cons_of_mem _ hk)), ⟨t1 ++ t2, by rw [h4, h2, List.append_assoc]⟩, h3 _ (h1 _ List.mem_cons_self)⟩
/-- A pair whose ways are all among the pairs, and that is no end. -/
def Shut (D : List Nat) (pc a : Nat) : Prop := match mv pc a with
  | .stop => True
  | .one p b => p * W + b ∈ D
  | .two p q b => p * W + b ∈ D ∧ q * W + b ∈ D
  | .cap _ p b => p * W + b ∈ D
  | .done => False
theorem Shut.more {D E : List Nat} {pc a : Nat} (h : Shut mv W D pc a) (hD : ∀ k ∈ D, k ∈ E) : Shut mv W E pc a := by
  unfold Shut at h ⊢
  cases hm : mv pc a with
  | stop => trivial
  | one p b => rw [hm] at h; exact hD _ h
  | two p q b => rw [hm] at h; exact ⟨hD _ h.1, hD _ h.2⟩
  | cap c p b => rw [hm] at h; exact hD _ h
  | done => rw [hm] at h; exact h
def Closed (N : Nat) (D : List Nat) : Prop := ∀ pc a, pc < N → a < W → pc * W + a ∈ D → Shut mv W D pc a
theorem idx_inj {pc a p b : Nat} (ha : a < W) (hb : b < W) (h : pc * W + a = p * W + b) : pc = p ∧ a = b := by
  have h0 : 0 < W := by omega
  have e1 : (pc * W + a) / W = pc := by rw [Nat.mul_comm, Nat.mul_add_div h0, Nat.div_eq_of_lt ha, Nat.add_zero]
  have e2 : (p * W + b) / W = p := by rw [Nat.mul_comm, Nat.mul_add_div h0, Nat.div_eq_of_lt hb, Nat.add_zero]
  have : pc = p := by rw [← e1, h, e2]
  subst this
  exact ⟨rfl, by omega⟩
/-- A search that found nothing leaves all that it saw shut. -/
theorem dfs_shut {N : Nat} (hF : Fits mv W N) : ∀ (f : Nat) {S pc a sl S'}, pc < N → a < W → dfs mv W f S [] pc a sl = some (S', []) → ∀ p b, p < N → b < W → p * W + b ∈ S' → p * W + b ∈ S ∨ Shut mv W S' p b
  | 0, _, _, _, _, _, _, _, h => by cases h
  | f + 1, S, pc, a, sl, S', hp, ha, h => by
    have hgr := dfs_grows mv W (f + 1) h
    unfold dfs at h
    split at h
    · cases h; exact fun p b _ _ hk => .inl hk
    · have hf := hF pc a hp ha
      have self : ∀ {E : List Nat}, Shut mv W E pc a → ∀ p b, b < W → p * W + b = pc * W + a → Shut mv W E p b := fun hs p b hb e => by
        obtain ⟨rfl, rfl⟩ := idx_inj W hb ha e
        exact hs
      cases hm : mv pc a with
      | stop =>
        rw [hm] at h
        cases h
        intro p b _ hb hk
        rcases List.mem_cons.1 hk with e | hk
        · exact .inr (self (by unfold Shut; rw [hm]; trivial) p b hb e)
        · exact .inl hk
      | done =>
        rw [hm] at h
        simp [addWay] at h
      | one p b =>
        rw [hm] at h hf
        obtain ⟨_, _, h3⟩ := dfs_grows mv W f h
        intro p' b' hp' hb' hk
        rcases dfs_shut hF f hf.1 hf.2 h p' b' hp' hb' hk with h4 | h4
        · rcases List.mem_cons.1 h4 with e | h4
          · exact .inr (self (by unfold Shut; rw [hm]; exact h3) p' b' hb' e)
          · exact .inl h4
        · exact .inr h4
      | cap c p b =>
        rw [hm] at h hf
        obtain ⟨_, _, h3⟩ := dfs_grows mv W f h
        intro p' b' hp' hb' hk
        rcases dfs_shut hF f hf.1 hf.2 h p' b' hp' hb' hk with h4 | h4
        · rcases List.mem_cons.1 h4 with e | h4
          · exact .inr (self (by unfold Shut; rw [hm]; exact h3) p' b' hb' e)
          · exact .inl h4
        · exact .inr h4
      | two p q b =>
        rw [hm] at h hf
        obtain ⟨⟨S1, w1⟩, hx, h'⟩ := Option.bind_eq_some_iff.1 h
        obtain ⟨_, ⟨t1, h2⟩, h3⟩ := dfs_grows mv W f hx
        obtain ⟨h5, ⟨t2, h4⟩, h6⟩ := dfs_grows mv W f h'
        dsimp only at h2 h4 h5 h'
        have hw : w1 = [] := (List.append_eq_nil_iff.1 h4.symm).1
        subst hw
        intro p' b' hp' hb' hk
        rcases dfs_shut hF f hf.2.1 hf.2.2 h' p' b' hp' hb' hk with h7 | h7
        · rcases dfs_shut hF f hf.1 hf.2.2 hx p' b' hp' hb' h7 with h8 | h8
          · rcases List.mem_cons.1 h8 with e | h8
            · exact .inr (self (by unfold Shut; rw [hm]; exact ⟨h5 _ h3, h6⟩) p' b' hb' e)
            · exact .inl h8
          · exact .inr (h8.more mv W h5)
        · exact .inr h7
theorem dfs_closed {N : Nat} (hF : Fits mv W N) {f : Nat} {S pc a sl S'} (hp : pc < N) (ha : a < W) (hS : Closed mv W N S) (h : dfs mv W f S [] pc a sl = some (S', [])) : Closed mv W N S' := fun p b hp' hb' hk => by
  rcases dfs_shut mv W hF f hp ha h p b hp' hb' hk with h1 | h1
  · exact (hS p b hp' hb' h1).more mv W (dfs_grows mv W f h).1
  · exact h1
/-- Among shut pairs nothing is found, and no others are seen. -/
theorem dfs_dead {N : Nat} (hF : Fits mv W N) {D : List Nat} (hD : Closed mv W N D) : ∀ (f : Nat) {S ws pc a sl r}, pc < N → a < W → pc * W + a ∈ D → dfs mv W f S ws pc a sl = some r → r.2 = ws ∧ ∀ k ∈ r.1, k ∈ S ∨ k ∈ D
  | 0, _, _, _, _, _, _, _, _, _, h => by cases h
  | f + 1, S, ws, pc, a, sl, r, hp, ha, hk, h => by
    have hs := hD pc a hp ha hk
    have hf := hF pc a hp ha
    unfold dfs at h
    split at h
    · cases h; exact ⟨rfl, fun k hk => .inl hk⟩
    · unfold Shut at hs
      have step : ∀ k, k ∈ (pc * W + a) :: S ∨ k ∈ D → k ∈ S ∨ k ∈ D := fun k hk' => by
        rcases hk' with h1 | h1
        · rcases List.mem_cons.1 h1 with rfl | h1
          · exact .inr hk
          · exact .inl h1
        · exact .inr h1
      cases hm : mv pc a with
      | stop => rw [hm] at h; cases h; exact ⟨rfl, fun k hk => step k (.inl hk)⟩
      | done => rw [hm] at hs; exact hs.elim
      | one p b =>
        rw [hm] at h hf hs
        obtain ⟨h1, h2⟩ := dfs_dead hF hD f hf.1 hf.2 hs h
        exact ⟨h1, fun k hk => step k (h2 k hk)⟩
      | cap c p b =>
        rw [hm] at h hf hs
        obtain ⟨h1, h2⟩ := dfs_dead hF hD f hf.1 hf.2 hs h
        exact ⟨h1, fun k hk => step k (h2 k hk)⟩
      | two p q b =>
        rw [hm] at h hf hs
        obtain ⟨x, hx, h'⟩ := Option.bind_eq_some_iff.1 h
        obtain ⟨h1, h2⟩ := dfs_dead hF hD f hf.1 hf.2.2 hs.1 hx
        obtain ⟨h3, h4⟩ := dfs_dead hF hD f hf.2.1 hf.2.2 hs.2 h'
        refine ⟨h3.trans h1, fun k hk => ?_⟩
        rcases h4 k hk with h5 | h5
        · exact step k (h2 k h5)
        · exact .inr h5
/-- What was seen in vain need not be seen again. -/
theorem dfs_more {N : Nat} (hF : Fits mv W N) {D : List Nat} (hD : Closed mv W N D) : ∀ (f : Nat) {S ws pc a sl r}, pc < N → a < W → dfs mv W f S ws pc a sl = some r → ∀ T : List Nat, (∀ k, k ∈ T ↔ k ∈ S ∨ k ∈ D) → ∃ T', dfs mv W f T ws pc a sl = some (T', r.2) ∧ ∀ k, k ∈ T' ↔ k ∈ r.1 ∨ k ∈ D
  | 0, _, _, _, _, _, _, _, _, h => by cases h
  | f + 1, S, ws, pc, a, sl, r, hp, ha, h => fun T hT => by
    by_cases g : pc * W + a ∈ T
    · have hT' : dfs mv W (f + 1) T ws pc a sl = some (T, ws) := by unfold dfs; rw [if_pos g]
      have hgr := dfs_grows mv W (f + 1) h
      rcases (hT _).1 g with h1 | h1
      · unfold dfs at h
        rw [if_pos h1] at h
        cases h
        exact ⟨T, hT', hT⟩
      · obtain ⟨h2, h3⟩ := dfs_dead mv W hF hD (f + 1) hp ha h1 h
        refine ⟨T, by rw [hT', h2], fun k => ?_⟩
        rw [hT]
        constructor
        · rintro (h4 | h4)
          · exact .inl (hgr.1 k h4)
          · exact .inr h4
        · rintro (h4 | h4)
          · exact h3 k h4
          · exact .inr h4
    · have g2 : ¬ pc * W + a ∈ S := fun hh => g ((hT _).2 (.inl hh))
      have hT2 : ∀ k, k ∈ (pc * W + a) :: T ↔ k ∈ (pc * W + a) :: S ∨ k ∈ D := fun k => by
        rw [List.mem_cons, List.mem_cons, hT, or_assoc]
      have hf := hF pc a hp ha
      unfold dfs at h
      rw [if_neg g2] at h
      have hu : dfs mv W (f + 1) T ws pc a sl = match mv pc a with
        | .stop => some ((pc * W + a) :: T, ws)
        | .one p b => dfs mv W f ((pc * W + a) :: T) ws p b sl
        | .two p q b => (dfs mv W f ((pc * W + a) :: T) ws p b sl).bind fun r => dfs mv W f r.1 r.2 q b sl
        | .cap c p b => dfs mv W f ((pc * W + a) :: T) ws p b (sl.set c (a : Int))
        | .done => some ((pc * W + a) :: T, addWay ws a sl) := by rw [dfs, if_neg g]
      rw [hu]
      cases hm : mv pc a with
      | stop => rw [hm] at h; cases h; exact ⟨_, rfl, hT2⟩
      | done => rw [hm] at h; cases h; exact ⟨_, rfl, hT2⟩
      | one p b => rw [hm] at h hf; exact dfs_more hF hD f hf.1 hf.2 h _ hT2
      | cap c p b => rw [hm] at h hf; exact dfs_more hF hD f hf.1 hf.2 h _ hT2
      | two p q b =>
        rw [hm] at h hf
        obtain ⟨x, hx, h'⟩ := Option.bind_eq_some_iff.1 h
        obtain ⟨T1, h1, h2⟩ := dfs_more hF hD f hf.1 hf.2.2 hx _ hT2
        obtain ⟨T2, h3, h4⟩ := dfs_more hF hD f hf.2.1 hf.2.2 h' T1 h2
        exact ⟨T2, by dsimp only; rw [h1, Option.bind_some]; exact h3, h4⟩
end
/-- The machine with what is left to do: pairs seen, slots, the best way, steps. -/
structure St where
  S : List Nat
  sl : List Int
  best : Option (List Int)
  steps : Nat
def better (best : Option (List Int)) (a : Nat) (sl : List Int) : Option (List Int) := match best with
  | none => some (sl.set 1 (a : Int))
  | some b => if b.getD 1 0 < (a : Int) then some (sl.set 1 (a : Int)) else some b
section
variable (mv : Nat → Nat → Mv) (W : Nat) (long : Bool)
/-- One go: behind it the state and what is left, or that nothing more is asked for. -/
def go1 (s : St) : Job → List Job → St × List Job × Bool
  | .restore k h, J => ({ s with sl := s.sl.set k h }, J, false)
  | .visit pc a, J => if pc * W + a ∈ s.S then (s, J, false) else match mv pc a with
    | .stop => ({ s with S := (pc * W + a) :: s.S, steps := s.steps + 1 }, J, false)
    | .one p b => ({ s with S := (pc * W + a) :: s.S, steps := s.steps + 1 }, .visit p b :: J, false)
    | .two p q b => ({ s with S := (pc * W + a) :: s.S, steps := s.steps + 1 }, .visit p b :: .visit q b :: J, false)
    | .cap c p b => ({ s with S := (pc * W + a) :: s.S, sl := s.sl.set c (a : Int), steps := s.steps + 1 }, .visit p b :: .restore c (s.sl.getD c 0) :: J, false)
    | .done => ({ s with S := (pc * W + a) :: s.S, best := better s.best a s.sl, steps := s.steps + 1 }, J, !long)
def run : Nat → St → List Job → Option (St × Bool)
  | 0, _, _ => none
  | _ + 1, s, [] => some (s, false)
  | f + 1, s, j :: J => if (go1 mv W long s j J).2.2 = true then some ((go1 mv W long s j J).1, true) else run f (go1 mv W long s j J).1 (go1 mv W long s j J).2.1
theorem run_mono : ∀ (f : Nat) {s J r}, run mv W long f s J = some r → run mv W long (f + 1) s J = some r
  | 0, _, _, _, h => by cases h
  | f + 1, s, [], r, h => h
  | f + 1, s, j :: J, r, h => by
    rw [run] at h ⊢
    split at h
    · rename_i g; rw [if_pos g]; exact h
    · rename_i g; rw [if_neg g]; exact run_mono f h
theorem run_le {f g : Nat} (h : f ≤ g) {s J r} (hr : run mv W long f s J = some r) : run mv W long g s J = some r := by
  obtain ⟨d, rfl⟩ : ∃ d, g = f + d := ⟨g - f, by omega⟩
  clear h
  induction d with
  | zero => exact hr
  | succ d ih => exact run_mono mv W long _ ih
/-- From here one comes there. -/
def Leads (s : St) (J : List Job) (t : St) (K : List Job) : Prop := ∀ f r, run mv W long f t K = some r → ∃ g, run mv W long g s J = some r
variable {mv W long}
theorem Leads.refl {s : St} {J : List Job} : Leads mv W long s J s J := fun f _ h => ⟨f, h⟩
theorem Leads.trans {s t u : St} {J K L : List Job} (h : Leads mv W long s J t K) (k : Leads mv W long t K u L) : Leads mv W long s J u L := fun f r hr => by
  obtain ⟨g, hg⟩ := k f r hr
  exact h g r hg
theorem Leads.step {s : St} {j : Job} {J : List Job} (h : (go1 mv W long s j J).2.2 = false) : Leads mv W long s (j :: J) (go1 mv W long s j J).1 (go1 mv W long s j J).2.1 := fun f r hr => ⟨f + 1, by rw [run, h, if_neg (by decide)]; exact hr⟩
/-- The best of the ways so far. -/
def bestW : Ways → Option (Nat × List Int) → Option (Nat × List Int)
  | [], b => b
  | w :: t, none => bestW t (some w)
  | w :: t, some b => bestW t (some (if b.1 < w.1 then w else b))
def asBest (o : Option (Nat × List Int)) : Option (List Int) := o.map fun w => w.2.set 1 (w.1 : Int)
set_option linter.unusedVariables false
theorem bestW_app : ∀ (u : Ways) (w : Nat × List Int) (b : Option (Nat × List Int)), bestW (u ++ [w]) b = some (match bestW u b with | none => w | some x => if x.1 < w.1 then w else x)
  | [], w, none => rfl
  | [], w, some b => rfl
  | x :: t, w, none => bestW_app t w (some x)
  | x :: t, w, some b => bestW_app t w _
theorem bestW_max : ∀ (u : Ways) (b : Option (Nat × List Int)) (w : Nat × List Int), (w ∈ u ∨ b = some w) → ∃ x, bestW u b = some x ∧ w.1 ≤ x.1
  | [], b, w, h => by
    rcases h with h | h
    · cases h
    · exact ⟨w, h, Nat.le_refl _⟩
  | y :: t, none, w, h => by
    rcases h with h | h
    · rcases List.mem_cons.1 h with e | h
      · rw [e]; exact bestW_max t (some y) y (.inr rfl)
      · exact bestW_max t (some y) w (.inl h)
    · cases h
  | y :: t, some b, w, h => by
    show ∃ x, bestW t (some (if b.1 < y.1 then y else b)) = some x ∧ _
    rcases h with h | h
    · rcases List.mem_cons.1 h with e | h
      · rw [e]
        obtain ⟨x, h1, h2⟩ := bestW_max t (some (if b.1 < y.1 then y else b)) _ (.inr rfl)
        refine ⟨x, h1, Nat.le_trans ?_ h2⟩
        split <;> omega
      · exact bestW_max t _ w (.inl h)
    · have e : b = w := Option.some.inj h
      rw [← e]
      obtain ⟨x, h1, h2⟩ := bestW_max t (some (if b.1 < y.1 then y else b)) _ (.inr rfl)
      refine ⟨x, h1, Nat.le_trans ?_ h2⟩
      split <;> omega
theorem bestW_from : ∀ (u : Ways) (x : Nat × List Int), bestW u none = some x → x ∈ u
  | [], x, h => by cases h
  | y :: t, x, h => by
    have key : ∀ (u : Ways) (b x : Nat × List Int), bestW u (some b) = some x → x = b ∨ x ∈ u := by
      intro u
      induction u with
      | nil => intro b x h; cases h; exact .inl rfl
      | cons y t ih =>
        intro b x h
        rcases ih _ x h with h1 | h1
        · split at h1
          · exact .inr (h1 ▸ List.mem_cons_self)
          · exact .inl h1
        · exact .inr (List.mem_cons_of_mem _ h1)
    rcases key t y x h with rfl | h1
    · exact List.mem_cons_self
    · exact List.mem_cons_of_mem _ h1
theorem getD_at {l : List Int} {i : Nat} (h : i < l.length) (d : Int) : l.getD i d = l[i] := by simp [List.getD_eq_getElem?_getD, h]
theorem better_ways {ws : Ways} (hw : ∀ w ∈ ws, 2 ≤ w.2.length) (a : Nat) (sl : List Int) : better (asBest (bestW ws none)) a sl = asBest (bestW (addWay ws a sl) none) := by
  have hget : ∀ w ∈ ws, (w.2.set 1 (w.1 : Int)).getD 1 0 = (w.1 : Int) := fun w hw' => by
    have := hw w hw'
    rw [getD_at (by rw [List.length_set]; omega), List.getElem_set_self]
  unfold addWay
  by_cases h : ws.any (fun w => w.1 == a) = true
  · rw [if_pos h]
    obtain ⟨w, h1, h2⟩ := List.any_eq_true.1 h
    have h3 : w.1 = a := by simpa using h2
    obtain ⟨x, hx, hle⟩ := bestW_max ws none w (.inl h1)
    rw [hx]
    show better (some (x.2.set 1 (x.1 : Int))) a sl = some (x.2.set 1 (x.1 : Int))
    unfold better
    dsimp only
    rw [hget x (bestW_from ws x hx), if_neg (by omega)]
  · rw [if_neg h, bestW_app]
    cases hb : bestW ws none with
    | none => rfl
    | some x =>
      show better (some (x.2.set 1 (x.1 : Int))) a sl = _
      unfold better
      dsimp only
      rw [hget x (bestW_from ws x hb)]
      by_cases g : x.1 < a
      · rw [if_pos (by omega), if_pos g]; rfl
      · rw [if_neg (by omega), if_neg g]; rfl
/-- Slots that are given a place are there. -/
def CapOk (mv : Nat → Nat → Mv) (n : Nat) : Prop := ∀ pc a, match mv pc a with
  | .cap c _ _ => 2 ≤ c ∧ c < n
  | _ => True
theorem addWay_len {ws : Ways} (hw : ∀ w ∈ ws, 2 ≤ w.2.length) {a : Nat} {sl : List Int} (h : 2 ≤ sl.length) : ∀ w ∈ addWay ws a sl, 2 ≤ w.2.length := fun w hm => by
  unfold addWay at hm
  split at hm
  · exact hw w hm
  · rcases List.mem_append.1 hm with hm | hm
    · exact hw w hm
    · rw [List.mem_singleton.1 hm]; exact h
theorem dfs_len {n : Nat} (hC : CapOk mv n) (hn : 2 ≤ n) : ∀ (f : Nat) {S ws pc a sl r}, sl.length = n → (∀ w ∈ ws, 2 ≤ w.2.length) → dfs mv W f S ws pc a sl = some r → ∀ w ∈ r.2, 2 ≤ w.2.length
  | 0, _, _, _, _, _, _, _, _, h => by cases h
  | f + 1, S, ws, pc, a, sl, r, hl, hw, h => by
    unfold dfs at h
    split at h
    · cases h; exact hw
    · cases hm : mv pc a with
      | stop => rw [hm] at h; cases h; exact hw
      | one p b => rw [hm] at h; exact dfs_len hC hn f hl hw h
      | cap c p b => rw [hm] at h; exact dfs_len hC hn f (by rw [List.length_set]; exact hl) hw h
      | done => rw [hm] at h; cases h; exact addWay_len hw (by omega)
      | two p q b =>
        rw [hm] at h
        obtain ⟨x, hx, h'⟩ := Option.bind_eq_some_iff.1 h
        exact dfs_len hC hn f hl (dfs_len hC hn f hl hw hx) h'
theorem set_back (sl : List Int) (c : Nat) (v : Int) (h : c < sl.length) : (sl.set c v).set c (sl.getD c 0) = sl := by
  rw [List.set_set, getD_at h, List.set_getElem_self]
/-- The longest: the machine goes through what the search goes through, and holds the best way. -/
theorem run_long {n : Nat} (hC : CapOk mv n) (hn : 2 ≤ n) : ∀ (f : Nat) {S ws pc a sl r}, sl.length = n → (∀ w ∈ ws, 2 ≤ w.2.length) → dfs mv W f S ws pc a sl = some r → ∀ (st : Nat) (J : List Job), ∃ st', Leads mv W true ⟨S, sl, asBest (bestW ws none), st⟩ (.visit pc a :: J) ⟨r.1, sl, asBest (bestW r.2 none), st'⟩ J
  | 0, _, _, _, _, _, _, _, _, h => by cases h
  | f + 1, S, ws, pc, a, sl, r, hl, hw, h => fun st J => by
    unfold dfs at h
    by_cases g : pc * W + a ∈ S
    · rw [if_pos g] at h
      cases h
      have e : go1 mv W true ⟨S, sl, asBest (bestW ws none), st⟩ (.visit pc a) J = (⟨S, sl, asBest (bestW ws none), st⟩, J, false) := by unfold go1; dsimp only; rw [if_pos g]
      have := Leads.step (mv := mv) (W := W) (long := true) (s := ⟨S, sl, asBest (bestW ws none), st⟩) (j := .visit pc a) (J := J) (by rw [e])
      rw [e] at this
      exact ⟨st, this⟩
    · rw [if_neg g] at h
      have hs := @Leads.step mv W true ⟨S, sl, asBest (bestW ws none), st⟩ (.visit pc a) J
      have e : go1 mv W true ⟨S, sl, asBest (bestW ws none), st⟩ (.visit pc a) J = match mv pc a with
        | .stop => (⟨(pc * W + a) :: S, sl, asBest (bestW ws none), st + 1⟩, J, false)
        | .one p b => (⟨(pc * W + a) :: S, sl, asBest (bestW ws none), st + 1⟩, .visit p b :: J, false)
        | .two p q b => (⟨(pc * W + a) :: S, sl, asBest (bestW ws none), st + 1⟩, .visit p b :: .visit q b :: J, false)
        | .cap c p b => (⟨(pc * W + a) :: S, sl.set c (a : Int), asBest (bestW ws none), st + 1⟩, .visit p b :: .restore c (sl.getD c 0) :: J, false)
        | .done => (⟨(pc * W + a) :: S, sl, better (asBest (bestW ws none)) a sl, st + 1⟩, J, false) := by unfold go1; dsimp only; rw [if_neg g]; rfl
      rw [e] at hs
      have hc := hC pc a
      cases hm : mv pc a with
      | stop => rw [hm] at h hs; cases h; exact ⟨st + 1, hs rfl⟩
      | one p b =>
        rw [hm] at h hs
        obtain ⟨st', h1⟩ := run_long hC hn f hl hw h (st + 1) J
        exact ⟨st', (hs rfl).trans h1⟩
      | cap c p b =>
        rw [hm] at h hs hc
        obtain ⟨st', h1⟩ := run_long hC hn f (by rw [List.length_set]; exact hl) hw h (st + 1) (.restore c (sl.getD c 0) :: J)
        have hb := @Leads.step mv W true ⟨r.1, sl.set c (a : Int), asBest (bestW r.2 none), st'⟩ (.restore c (sl.getD c 0)) J rfl
        have e2 : go1 mv W true ⟨r.1, sl.set c (a : Int), asBest (bestW r.2 none), st'⟩ (.restore c (sl.getD c 0)) J = (⟨r.1, sl, asBest (bestW r.2 none), st'⟩, J, false) := by
          show (St.mk r.1 ((sl.set c (a : Int)).set c (sl.getD c 0)) _ _, J, false) = _
          rw [set_back sl c _ (by rw [hl]; exact hc.2)]
        rw [e2] at hb
        exact ⟨st', ((hs rfl).trans h1).trans hb⟩
      | done =>
        rw [hm] at h hs
        cases h
        have := hs rfl
        rw [better_ways hw] at this
        exact ⟨st + 1, this⟩
      | two p q b =>
        rw [hm] at h hs
        obtain ⟨x, hx, h'⟩ := Option.bind_eq_some_iff.1 h
        obtain ⟨s1, h1⟩ := run_long hC hn f hl hw hx (st + 1) (.visit q b :: J)
        obtain ⟨s2, h2⟩ := run_long hC hn f hl (dfs_len hC hn f hl hw hx) h' s1 J
        exact ⟨s2, ((hs rfl).trans h1).trans h2⟩
/-- The first: nothing found, the machine goes on; something found, it ends with the first way. -/
theorem run_first {n : Nat} (hC : CapOk mv n) (hn : 2 ≤ n) : ∀ (f : Nat) {S pc a sl r}, sl.length = n → dfs mv W f S [] pc a sl = some r → ∀ (st : Nat) (J : List Job),
    (r.2 = [] → ∃ st', Leads mv W false ⟨S, sl, none, st⟩ (.visit pc a :: J) ⟨r.1, sl, none, st'⟩ J) ∧
    (∀ w t, r.2 = w :: t → ∃ g S' sl' st', run mv W false g ⟨S, sl, none, st⟩ (.visit pc a :: J) = some (⟨S', sl', some (w.2.set 1 (w.1 : Int)), st'⟩, true))
  | 0, _, _, _, _, _, _, h => by cases h
  | f + 1, S, pc, a, sl, r, hl, h => fun st J => by
    unfold dfs at h
    by_cases g : pc * W + a ∈ S
    · rw [if_pos g] at h
      cases h
      have e : go1 mv W false ⟨S, sl, none, st⟩ (.visit pc a) J = (⟨S, sl, none, st⟩, J, false) := by unfold go1; dsimp only; rw [if_pos g]
      have := Leads.step (mv := mv) (W := W) (long := false) (s := ⟨S, sl, none, st⟩) (j := .visit pc a) (J := J) (by rw [e])
      rw [e] at this
      exact ⟨fun _ => ⟨st, this⟩, fun w t hh => by cases hh⟩
    · rw [if_neg g] at h
      have hs := @Leads.step mv W false ⟨S, sl, none, st⟩ (.visit pc a) J
      have e : go1 mv W false ⟨S, sl, none, st⟩ (.visit pc a) J = match mv pc a with
        | .stop => (⟨(pc * W + a) :: S, sl, none, st + 1⟩, J, false)
        | .one p b => (⟨(pc * W + a) :: S, sl, none, st + 1⟩, .visit p b :: J, false)
        | .two p q b => (⟨(pc * W + a) :: S, sl, none, st + 1⟩, .visit p b :: .visit q b :: J, false)
        | .cap c p b => (⟨(pc * W + a) :: S, sl.set c (a : Int), none, st + 1⟩, .visit p b :: .restore c (sl.getD c 0) :: J, false)
        | .done => (⟨(pc * W + a) :: S, sl, some (sl.set 1 (a : Int)), st + 1⟩, J, true) := by unfold go1; dsimp only; rw [if_neg g]; rfl
      rw [e] at hs
      have hc := hC pc a
      cases hm : mv pc a with
      | stop => rw [hm] at h hs; cases h; exact ⟨fun _ => ⟨st + 1, hs rfl⟩, fun w t hh => by cases hh⟩
      | one p b =>
        rw [hm] at h hs
        obtain ⟨k1, k2⟩ := run_first hC hn f hl h (st + 1) J
        refine ⟨fun hh => ?_, fun w t hh => ?_⟩
        · obtain ⟨st', h1⟩ := k1 hh
          exact ⟨st', (hs rfl).trans h1⟩
        · obtain ⟨g', S', sl', st', h1⟩ := k2 w t hh
          obtain ⟨g2, h2⟩ := hs rfl _ _ h1
          exact ⟨g2, S', sl', st', h2⟩
      | cap c p b =>
        rw [hm] at h hs hc
        obtain ⟨k1, k2⟩ := run_first hC hn f (sl := sl.set c (a : Int)) (by rw [List.length_set]; exact hl) h (st + 1) (.restore c (sl.getD c 0) :: J)
        refine ⟨fun hh => ?_, fun w t hh => ?_⟩
        · obtain ⟨st', h1⟩ := k1 hh
          have hb := @Leads.step mv W false ⟨r.1, sl.set c (a : Int), none, st'⟩ (.restore c (sl.getD c 0)) J rfl
          have e2 : go1 mv W false ⟨r.1, sl.set c (a : Int), none, st'⟩ (.restore c (sl.getD c 0)) J = (⟨r.1, sl, none, st'⟩, J, false) := by
            show (St.mk r.1 ((sl.set c (a : Int)).set c (sl.getD c 0)) _ _, J, false) = _
            rw [set_back sl c _ (by rw [hl]; exact hc.2)]
          rw [e2] at hb
          exact ⟨st', ((hs rfl).trans h1).trans hb⟩
        · obtain ⟨g', S', sl', st', h1⟩ := k2 w t hh
          obtain ⟨g2, h2⟩ := hs rfl _ _ h1
          exact ⟨g2, S', sl', st', h2⟩
      | done =>
        rw [hm] at h
        cases h
        refine ⟨fun hh => by simp [addWay] at hh, fun w t hh => ?_⟩
        have hw : (a, sl) = w := by simp [addWay] at hh; exact hh.1
        subst hw
        exact ⟨1, _, _, _, by rw [run, e, hm, if_pos rfl]⟩
      | two p q b =>
        rw [hm] at h hs
        obtain ⟨⟨S1, w1⟩, hx, h'⟩ := Option.bind_eq_some_iff.1 h
        obtain ⟨k1, k2⟩ := run_first hC hn f hl hx (st + 1) (.visit q b :: J)
        dsimp only at k1 k2 h'
        cases w1 with
        | nil =>
          obtain ⟨s1, h1⟩ := k1 rfl
          obtain ⟨k3, k4⟩ := run_first hC hn f hl h' s1 J
          refine ⟨fun hh => ?_, fun w t hh => ?_⟩
          · obtain ⟨st', h2⟩ := k3 hh
            exact ⟨st', ((hs rfl).trans h1).trans h2⟩
          · obtain ⟨g', S', sl', st', h2⟩ := k4 w t hh
            obtain ⟨g2, h3⟩ := ((hs rfl).trans h1) _ _ h2
            exact ⟨g2, S', sl', st', h3⟩
        | cons y u =>
          obtain ⟨_, ⟨t2, ht⟩, _⟩ := dfs_grows mv W f h'
          refine ⟨fun hh => ?_, fun w t hh => ?_⟩
          · rw [hh] at ht; simp at ht
          · rw [hh] at ht
            have hy : w = y := by simp at ht; exact ht.1
            subst hy
            obtain ⟨g', S', sl', st', h2⟩ := k2 w u rfl
            obtain ⟨g2, h3⟩ := hs rfl _ _ h2
            exact ⟨g2, S', sl', st', h3⟩
end
def put0 (v : Int) (w : Nat × List Int) : Nat × List Int := (w.1, w.2.set 0 v)
theorem addWay_put (v : Int) (ws : Ways) (e : Nat) (sl : List Int) : addWay (ws.map (put0 v)) e (sl.set 0 v) = (addWay ws e sl).map (put0 v) := by
  unfold addWay
  have : (ws.map (put0 v)).any (fun w => w.1 == e) = ws.any (fun w => w.1 == e) := by rw [List.any_map]; rfl
  rw [this]
  split
  · rfl
  · rw [List.map_append]; rfl
section
variable {mv : Nat → Nat → Mv} {W : Nat}
theorem dfs_put {n : Nat} (hC : CapOk mv n) (v : Int) : ∀ (f : Nat) (S : List Nat) (ws : Ways) (pc a : Nat) (sl : List Int), dfs mv W f S (ws.map (put0 v)) pc a (sl.set 0 v) = (dfs mv W f S ws pc a sl).map fun r => (r.1, r.2.map (put0 v))
  | 0, _, _, _, _, _ => rfl
  | f + 1, S, ws, pc, a, sl => by
    unfold dfs
    by_cases g : pc * W + a ∈ S
    · rw [if_pos g, if_pos g]; rfl
    · rw [if_neg g, if_neg g]
      have hc := hC pc a
      cases hm : mv pc a with
      | stop => rfl
      | one p b => exact dfs_put hC v f _ ws p b sl
      | done => dsimp only; rw [addWay_put]; rfl
      | cap c p b =>
        rw [hm] at hc
        dsimp only
        rw [List.set_comm _ _ (show (0 : Nat) ≠ c by omega)]
        exact dfs_put hC v f _ ws p b (sl.set c (a : Int))
      | two p q b =>
        dsimp only
        rw [dfs_put hC v f _ ws p b sl]
        cases hx : dfs mv W f ((pc * W + a) :: S) ws p b sl with
        | none => rfl
        | some x => exact dfs_put hC v f x.1 x.2 q b sl
/-- The ways from a place. -/
def waysAt (mv : Nat → Nat → Mv) (W N pc0 : Nat) (blank : List Int) (a : Nat) : Ways := ((dfs mv W (N * W + 1) [] [] pc0 a blank).map fun r => r.2).getD []
/-- What ways tell. -/
def pick (long : Bool) (a : Nat) (ws : Ways) : Option (List Int) := (if long = true then bestW ws none else ws.head?).map fun w => (w.2.set 0 (a : Int)).set 1 (w.1 : Int)
theorem bestW_put (v : Int) : ∀ (u : Ways) (b : Option (Nat × List Int)), bestW (u.map (put0 v)) (b.map (put0 v)) = (bestW u b).map (put0 v)
  | [], b => rfl
  | w :: t, none => bestW_put v t (some w)
  | w :: t, some b => by
    have h := bestW_put v t (some (if b.1 < w.1 then w else b))
    have e : (some (if b.1 < w.1 then w else b)).map (put0 v) = some (if (put0 v b).1 < (put0 v w).1 then put0 v w else put0 v b) := by
      show some (put0 v (if b.1 < w.1 then w else b)) = some (if b.1 < w.1 then put0 v w else put0 v b)
      split <;> rfl
    rw [e] at h
    exact h
theorem small_nil (N : Nat) : Small W N [] := ⟨List.nodup_nil, fun k hk => by cases hk⟩
theorem closed_nil (N : Nat) : Closed mv W N [] := fun _ _ _ _ hk => by cases hk
theorem ways_at {N : Nat} (hF : Fits mv W N) {pc0 a : Nat} (hp : pc0 < N) (ha : a < W) (blank : List Int) : ∃ S, dfs mv W (N * W + 1) [] [] pc0 a blank = some (S, waysAt mv W N pc0 blank a) := by
  obtain ⟨r, h1, _⟩ := dfs_ends mv W hF (N * W) [] [] pc0 a blank (small_nil N) (by simp) hp ha
  refine ⟨r.1, ?_⟩
  unfold waysAt
  rw [h1]
  rfl
/-- From a place, behind what was seen in vain. -/
theorem from_at {N n : Nat} (hF : Fits mv W N) (hC : CapOk mv n) (hn : 2 ≤ n) {pc0 a : Nat} (hp : pc0 < N) (ha : a < W) {blank : List Int} (hb : blank.length = n) (long : Bool) {T : List Nat} (hT : Closed mv W N T) (hTs : Small W N T) (st : Nat) :
    ∃ f s b, run mv W long f ⟨T, blank.set 0 (a : Int), none, st⟩ [.visit pc0 a] = some (s, b) ∧ s.best = pick long a (waysAt mv W N pc0 blank a) ∧ (s.best = none → Closed mv W N s.S ∧ Small W N s.S ∧ s.sl = blank.set 0 (a : Int)) := by
  obtain ⟨S, hS⟩ := ways_at hF hp ha blank
  obtain ⟨T', h1, h2⟩ := dfs_more mv W hF hT (N * W + 1) hp ha hS T (fun k => by simp)
  have h3 : dfs mv W (N * W + 1) T [] pc0 a (blank.set 0 (a : Int)) = some (T', (waysAt mv W N pc0 blank a).map (put0 a)) := by
    have := dfs_put (W := W) hC (a : Int) (N * W + 1) T [] pc0 a blank
    rw [List.map_nil, h1] at this
    exact this
  have hl : (blank.set 0 (a : Int)).length = n := by rw [List.length_set]; exact hb
  generalize waysAt mv W N pc0 blank a = ws at h3
  have hsm : Small W N T' := by
    obtain ⟨r, e1, e2, _⟩ := dfs_ends mv W hF (N * W - T.length) T [] pc0 a (blank.set 0 (a : Int)) hTs (Nat.le_refl _) hp ha
    have := dfs_le mv W (show N * W - T.length + 1 ≤ N * W + 1 by omega) e1
    rw [h3] at this
    have e3 := Option.some.inj this
    rw [← e3] at e2
    exact e2
  have hcl : ws = [] → Closed mv W N T' := fun e => by
    subst e
    exact dfs_closed mv W hF hp ha hT h3
  cases long with
  | true =>
    obtain ⟨st', hL⟩ := run_long hC hn (N * W + 1) (ws := []) hl (fun w hw => by cases hw) h3 st []
    obtain ⟨g, hg⟩ := hL 1 (⟨T', blank.set 0 (a : Int), asBest (bestW (ws.map (put0 a)) none), st'⟩, false) rfl
    have hbest : asBest (bestW (ws.map (put0 a)) none) = pick true a ws := by
      have := bestW_put (a : Int) ws none
      rw [show (none : Option (Nat × List Int)).map (put0 (a : Int)) = none from rfl] at this
      rw [this]
      unfold asBest pick
      rw [if_pos rfl, Option.map_map]
      rfl
    refine ⟨g, _, _, hg, hbest, fun e => ⟨hcl ?_, hsm, rfl⟩⟩
    dsimp only at e
    rw [hbest] at e
    cases ws with
    | nil => rfl
    | cons w t =>
      obtain ⟨x, hx, _⟩ := bestW_max (w :: t) none w (.inl List.mem_cons_self)
      unfold pick at e
      rw [if_pos rfl, hx] at e
      cases e
  | false =>
    obtain ⟨k1, k2⟩ := run_first hC hn (N * W + 1) hl h3 st []
    cases ws with
    | nil =>
      obtain ⟨st', hL⟩ := k1 rfl
      obtain ⟨g, hg⟩ := hL 1 (⟨T', blank.set 0 (a : Int), none, st'⟩, false) rfl
      exact ⟨g, _, _, hg, rfl, fun _ => ⟨hcl rfl, hsm, rfl⟩⟩
    | cons w t =>
      obtain ⟨g, S', sl', st', hg⟩ := k2 (put0 a w) (t.map (put0 a)) rfl
      exact ⟨g, _, _, hg, rfl, fun e => by cases e⟩
/-- The document's search: d places more. -/
def findV (mv : Nat → Nat → Mv) (W N pc0 : Nat) (blank : List Int) (long anch : Bool) : Nat → Nat → Option (List Int)
  | 0, _ => none
  | d + 1, a => match pick long a (waysAt mv W N pc0 blank a) with
    | some x => some x
    | none => if anch = true then none else findV mv W N pc0 blank long anch d (a + 1)
end
section
variable (mv : Nat → Nat → Mv) (W : Nat) (long : Bool)
/-- As far as there is one way: what walker.advance does. -/
def advV : Nat → St → List Job → Nat → Nat → Option (St × List Job × Bool)
  | 0, _, _, _, _ => none
  | f + 1, s, J, pc, a => if pc * W + a ∈ s.S then some (s, J, false) else match mv pc a with
    | .stop => some ({ s with S := (pc * W + a) :: s.S, steps := s.steps + 1 }, J, false)
    | .one p b => advV f { s with S := (pc * W + a) :: s.S, steps := s.steps + 1 } J p b
    | .two p q b => advV f { s with S := (pc * W + a) :: s.S, steps := s.steps + 1 } (.visit q b :: J) p b
    | .cap c p b => advV f { s with S := (pc * W + a) :: s.S, sl := s.sl.set c (a : Int), steps := s.steps + 1 } (.restore c (s.sl.getD c 0) :: J) p b
    | .done => some ({ s with S := (pc * W + a) :: s.S, best := better s.best a s.sl, steps := s.steps + 1 }, J, !long)
/-- A run that begins with a visit goes on as far as there is one way, and then with what is left. -/
theorem run_adv : ∀ (f : Nat) {s J pc a r}, run mv W long f s (.visit pc a :: J) = some r → ∃ s' J' b, advV mv W long f s J pc a = some (s', J', b) ∧ (b = true → r = (s', true)) ∧ (b = false → ∃ g, g < f ∧ run mv W long g s' J' = some r)
  | 0, _, _, _, _, _, h => by cases h
  | f + 1, s, J, pc, a, r, h => by
    rw [run] at h
    unfold advV
    by_cases g : pc * W + a ∈ s.S
    · have e : go1 mv W long s (.visit pc a) J = (s, J, false) := by unfold go1; dsimp only; rw [if_pos g]
      rw [e] at h
      simp only [Bool.false_eq_true, if_false] at h
      exact ⟨s, J, false, by rw [if_pos g], fun hh => (by cases hh), fun _ => ⟨f, Nat.lt_succ_self f, h⟩⟩
    · have e : go1 mv W long s (.visit pc a) J = match mv pc a with
        | .stop => ({ s with S := (pc * W + a) :: s.S, steps := s.steps + 1 }, J, false)
        | .one p b => ({ s with S := (pc * W + a) :: s.S, steps := s.steps + 1 }, .visit p b :: J, false)
        | .two p q b => ({ s with S := (pc * W + a) :: s.S, steps := s.steps + 1 }, .visit p b :: .visit q b :: J, false)
        | .cap c p b => ({ s with S := (pc * W + a) :: s.S, sl := s.sl.set c (a : Int), steps := s.steps + 1 }, .visit p b :: .restore c (s.sl.getD c 0) :: J, false)
        | .done => ({ s with S := (pc * W + a) :: s.S, best := better s.best a s.sl, steps := s.steps + 1 }, J, !long) := by unfold go1; dsimp only; rw [if_neg g]
      rw [e] at h
      rw [if_neg g]
      have up : ∀ {x : Option (St × List Job × Bool)}, (∃ s' J' b, x = some (s', J', b) ∧ (b = true → r = (s', true)) ∧ (b = false → ∃ g, g < f ∧ run mv W long g s' J' = some r)) → ∃ s' J' b, x = some (s', J', b) ∧ (b = true → r = (s', true)) ∧ (b = false → ∃ g, g < f + 1 ∧ run mv W long g s' J' = some r) := fun ⟨s', J', b, h1, h2, h3⟩ => ⟨s', J', b, h1, h2, fun hb => by
        obtain ⟨g, hg, hr⟩ := h3 hb
        exact ⟨g, by omega, hr⟩⟩
      cases hm : mv pc a with
      | stop =>
        rw [hm] at h
        exact ⟨_, _, _, rfl, fun hh => (by cases hh), fun _ => ⟨f, Nat.lt_succ_self f, h⟩⟩
      | one p b => rw [hm] at h; exact up (run_adv f h)
      | two p q b => rw [hm] at h; exact up (run_adv f h)
      | cap c p b => rw [hm] at h; exact up (run_adv f h)
      | done =>
        rw [hm] at h
        dsimp only at h
        cases hl : long with
        | true =>
          rw [hl] at h
          exact ⟨_, _, _, rfl, fun hh => (by cases hh), fun _ => ⟨f, Nat.lt_succ_self f, by rw [hl] at *; exact h⟩⟩
        | false =>
          rw [hl] at h
          exact ⟨_, _, _, rfl, fun _ => (by cases h; rfl), fun hh => by cases hh⟩
end
end Go.Proofs.YtjajehjhonabdaaX.Bit

namespace Go.Proofs.YtjajehjhonabdaaX
open Go.RowKit Go.Proofs.YtjajehjhonabdaaW.PrintWords Go.Proofs.YtjajehjhonabdaaW.PrintLast Go.Proofs.YtjajehjhonabdaaW.PrintMore
open Bit
set_option linter.unusedVariables false
set_option linter.unusedSimpArgs false
/-! A checked program's moves over a text. -/
theorem checkC_okX {l : List I5} {a b : Int} (h : checkC l a b = 0) : 1 ≤ l.length ∧ l.length ≤ 4000 ∧ (0 ≤ a ∧ a < 4000) ∧ 0 ≤ b ∧ b ≤ 64 ∧ l.all fitsB = true := by
  unfold checkC at h
  split at h
  · assumption
  · omega
theorem look_lenX {l : List I5} {a b : Int} (h : (lookC l a b).2 = 0) : checkC l a b = 0 ∧ targetsB l a = true ∧ slotsB l b = true ∧ ∃ o, ordL l = some o ∧ (lookC l a b).1 = o := by
  unfold lookC at h ⊢
  by_cases h0 : checkC l a b ≠ 0
  · rw [if_pos h0] at h; exact absurd h (by decide)
  · rw [if_neg h0] at h ⊢
    cases ht : targetsB l a with
    | false => rw [ht, if_pos rfl] at h; exact absurd h (by decide)
    | true =>
      rw [ht, if_neg (by decide)] at h
      rw [if_neg (by decide)]
      cases hs : slotsB l b with
      | false => rw [hs, if_pos rfl] at h; exact absurd h (by decide)
      | true =>
        rw [hs, if_neg (by decide)] at h
        rw [if_neg (by decide)]
        cases ho : ordL l with
        | none => rw [ho] at h; exact absurd h (by decide)
        | some o => exact ⟨by omega, rfl, rfl, o, rfl, rfl⟩
/-- What is so of an instruction of a checked program. -/
structure InstOk (n : Nat) (b : Int) (x : I5) : Prop where
  op : 1 ≤ x.1 ∧ x.1 ≤ 6
  X : 0 ≤ x.2.2.2.1 ∧ x.2.2.2.1 < n
  Y : 0 ≤ x.2.2.2.2 ∧ x.2.2.2.2 < n
  cap : x.1 = 3 → 2 ≤ x.2.1 ∧ x.2.1 < b
  holds : x.1 = 4 → 1 ≤ x.2.1 ∧ x.2.1 ≤ 6
  byte : x.1 = 1 → 0 ≤ x.2.1 ∧ x.2.1 ≤ x.2.2.1 ∧ x.2.2.1 ≤ 255
structure ProgOk (l : List I5) (a b : Int) : Prop where
  len : 1 ≤ l.length ∧ l.length ≤ 4000
  start : 0 ≤ a ∧ a < l.length
  slots : 2 ≤ b ∧ b ≤ 64
  inst : ∀ x ∈ l, InstOk l.length b x
set_option maxHeartbeats 1000000 in
theorem prog_ok {l : List I5} {a b : Int} (h : (lookC l a b).2 = 0) : ProgOk l a b := by
  obtain ⟨h1, h2, h3, _⟩ := look_lenX h
  obtain ⟨g1, g2, g3, g4, g5, g6⟩ := checkC_okX h1
  unfold targetsB at h2
  unfold slotsB at h3
  simp only [Bool.and_eq_true, Bool.not_eq_true', List.any_eq_false, decide_eq_true_eq] at h2 h3
  refine ⟨by omega, by omega, by omega, fun x hx => ?_⟩
  have hf := List.all_eq_true.1 g6 _ hx
  have ht := h2.2 _ hx
  have hs := h3.2.2 _ hx
  generalize l.length = n at *
  unfold pastB leadsV at ht
  unfold badSlot at hs
  unfold fitsB fieldsL at hf
  simp only [Bool.and_eq_true, decide_eq_true_eq] at hf
  obtain ⟨f1, f2, f3, f4, f5, f6⟩ := hf
  obtain ⟨op, lo, hi', X, Y⟩ := x
  simp only at *
  rcases (show op = 1 ∨ op = 2 ∨ op = 3 ∨ op = 4 ∨ op = 5 ∨ op = 6 by omega) with rfl | rfl | rfl | rfl | rfl | rfl <;> simp [badField, ownV] at f5 f6 ht hs <;> (constructor <;> simp <;> omega)
def instAt (l : List I5) (pc : Nat) : I5 := l.getD pc (0, 0, 0, 0, 0)
theorem instAt_mem {l : List I5} {pc : Nat} (h : pc < l.length) : instAt l pc ∈ l := by
  unfold instAt
  rw [List.getD_eq_getElem?_getD, List.getElem?_eq_getElem h]
  exact List.getElem_mem h
/-- The moves. -/
def mvP (l : List I5) (t : ByteArray) (pc a : Nat) : Mv :=
  if (instAt l pc).1 = 1 then (if a < t.size ∧ (instAt l pc).2.1 ≤ bt t a ∧ bt t a ≤ (instAt l pc).2.2.1 then .one (instAt l pc).2.2.2.1.toNat (a + 1) else .stop)
  else if (instAt l pc).1 = 2 then .two (instAt l pc).2.2.2.1.toNat (instAt l pc).2.2.2.2.toNat a
  else if (instAt l pc).1 = 3 then .cap (instAt l pc).2.1.toNat (instAt l pc).2.2.2.1.toNat a
  else if (instAt l pc).1 = 4 then (if holdsV (instAt l pc).2.1 t a = true then .one (instAt l pc).2.2.2.1.toNat a else .stop)
  else if (instAt l pc).1 = 5 then .done else .stop
theorem mvP_fits {l : List I5} {a0 b : Int} (h : ProgOk l a0 b) (t : ByteArray) : Fits (mvP l t) (t.size + 1) l.length := fun pc a hp ha => by
  have hi := h.inst _ (instAt_mem hp)
  have hX := hi.X
  have hY := hi.Y
  unfold mvP
  generalize instAt l pc = x at hX hY
  by_cases h1 : x.1 = 1
  · rw [if_pos h1]
    by_cases g : a < t.size ∧ x.2.1 ≤ bt t a ∧ bt t a ≤ x.2.2.1
    · rw [if_pos g]; dsimp only; omega
    · rw [if_neg g]; trivial
  rw [if_neg h1]
  by_cases h2 : x.1 = 2
  · rw [if_pos h2]; dsimp only; omega
  rw [if_neg h2]
  by_cases h3 : x.1 = 3
  · rw [if_pos h3]; dsimp only; omega
  rw [if_neg h3]
  by_cases h4 : x.1 = 4
  · rw [if_pos h4]
    by_cases g : holdsV x.2.1 t a = true
    · rw [if_pos g]; dsimp only; omega
    · rw [if_neg g]; trivial
  rw [if_neg h4]
  by_cases h5 : x.1 = 5
  · rw [if_pos h5]; trivial
  · rw [if_neg h5]; trivial
theorem mvP_caps {l : List I5} {a0 b : Int} (h : ProgOk l a0 b) (t : ByteArray) : CapOk (mvP l t) b.toNat := fun pc a => by
  unfold mvP
  by_cases hp : pc < l.length
  · have hi := h.inst _ (instAt_mem hp)
    have hc := hi.cap
    have hs := h.slots
    generalize instAt l pc = x at hc
    by_cases h1 : x.1 = 1
    · rw [if_pos h1]
      by_cases g : a < t.size ∧ x.2.1 ≤ bt t a ∧ bt t a ≤ x.2.2.1
      · rw [if_pos g]; trivial
      · rw [if_neg g]; trivial
    rw [if_neg h1]
    by_cases h2 : x.1 = 2
    · rw [if_pos h2]; trivial
    rw [if_neg h2]
    by_cases h3 : x.1 = 3
    · have := hc h3
      rw [if_pos h3]; dsimp only; omega
    rw [if_neg h3]
    by_cases h4 : x.1 = 4
    · rw [if_pos h4]
      by_cases g : holdsV x.2.1 t a = true
      · rw [if_pos g]; trivial
      · rw [if_neg g]; trivial
    rw [if_neg h4]
    by_cases h5 : x.1 = 5
    · rw [if_pos h5]; trivial
    · rw [if_neg h5]; trivial
  · have e : instAt l pc = (0, 0, 0, 0, 0) := by
      unfold instAt
      rw [List.getD_eq_getElem?_getD, List.getElem?_eq_none (by omega)]
      rfl
    rw [e]
    trivial
end Go.Proofs.YtjajehjhonabdaaX

namespace Go.Proofs.YtjajehjhonabdaaX.Bit
set_option linter.unusedVariables false
/-! What stays so while a search with a stack goes on. -/
def jobFits (n b W : Nat) : Job → Prop
  | .visit p a => p < n ∧ a < W
  | .restore k _ => k < b
structure FromI (n b W : Nat) (s : St) (J : List Job) : Prop where
  sl : s.sl.length = b
  small : Small W n s.S
  steps : s.steps ≤ s.S.length
  jobs : J.length ≤ s.S.length + 1
  fit : ∀ j ∈ J, jobFits n b W j
theorem small_cons {n W : Nat} {S : List Nat} {pc a : Nat} (h : Small W n S) (hp : pc < n) (ha : a < W) (hn : pc * W + a ∉ S) : Small W n ((pc * W + a) :: S) :=
  ⟨List.nodup_cons.2 ⟨hn, h.1⟩, fun k hk => by
    rcases List.mem_cons.1 hk with rfl | hk
    · exact idx_lt W hp ha
    · exact h.2 k hk⟩
theorem adv_from {mv : Nat → Nat → Mv} {W : Nat} {long : Bool} {n b : Nat} (hF : Fits mv W n) (hC : CapOk mv b) : ∀ (f : Nat) {s : St} {J : List Job} {pc a : Nat} {r : St × List Job × Bool}, advV mv W long f s J pc a = some r → pc < n → a < W → s.sl.length = b → Small W n s.S → s.steps ≤ s.S.length → (∀ j ∈ J, jobFits n b W j) → J.length ≤ s.S.length → FromI n b W r.1 r.2.1 ∧ r.2.1.length ≤ r.1.S.length
  | 0, _, _, _, _, _, h, _, _, _, _, _, _, _ => by cases h
  | f + 1, s, J, pc, a, r, h, hp, ha, hsl, hsm, hst, hfit, hJ => by
    by_cases g : pc * W + a ∈ s.S
    · unfold advV at h
      rw [if_pos g] at h
      cases h
      exact ⟨⟨hsl, hsm, hst, by simp only at hJ ⊢; omega, hfit⟩, hJ⟩
    · have hS2 := small_cons hsm hp ha g
      have hf := hF pc a hp ha
      have hc := hC pc a
      unfold advV at h
      rw [if_neg g] at h
      have l1 : ((pc * W + a) :: s.S).length = s.S.length + 1 := rfl
      cases hm : mv pc a with
      | stop =>
        rw [hm] at h
        cases h
        exact ⟨⟨hsl, hS2, by simp only [l1]; omega, by simp only [l1]; omega, hfit⟩, by simp only [l1]; omega⟩
      | one p q =>
        rw [hm] at h hf
        exact adv_from hF hC f h hf.1 hf.2 hsl hS2 (by simp only [l1]; omega) hfit (by simp only [l1]; omega)
      | two p q c =>
        rw [hm] at h hf
        exact adv_from hF hC f h hf.1 hf.2.2 hsl hS2 (by simp only [l1]; omega) (fun j hj => by
          rcases List.mem_cons.1 hj with rfl | hj
          · exact ⟨hf.2.1, hf.2.2⟩
          · exact hfit j hj) (by simp only [l1, List.length_cons]; omega)
      | cap c p q =>
        rw [hm] at h hf hc
        exact adv_from hF hC f h hf.1 hf.2 (by rw [List.length_set]; exact hsl) hS2 (by simp only [l1]; omega) (fun j hj => by
          rcases List.mem_cons.1 hj with rfl | hj
          · exact hc.2
          · exact hfit j hj) (by simp only [l1, List.length_cons]; omega)
      | done =>
        rw [hm] at h
        cases h
        exact ⟨⟨hsl, hS2, by simp only [l1]; omega, by simp only [l1]; omega, hfit⟩, by simp only [l1]; omega⟩
end Go.Proofs.YtjajehjhonabdaaX.Bit

namespace Go.Proofs.YtjajehjhonabdaaX
open Go.RowKit Go.Proofs.YtjajehjhonabdaaW.PrintWords Go.Proofs.YtjajehjhonabdaaW.PrintLast Go.Proofs.YtjajehjhonabdaaW.PrintMore
set_option linter.unusedVariables false
set_option linter.unusedSimpArgs false
/-! Pairs; what a checked program's methods tell in a region that draws. -/
theorem Ck.drewN {W : World} {g : Nat} {l : List I5} {a b : Int} {o : List Int} (h : Ck W g l a b o) (n : Nat) : Ck (W.drewN n) g l a b o := h.step (pw_below_drewN (Below.refl _ _) n)
theorem len_quiet {W : World} {g : Nat} {l : List I5} {a b : Int} {o : List Int} (h : Ck W g l a b o) (n : Nat) : Calls Try.prog 20 #[.pointer (some ⟨g, 0, none⟩)] (W.drewN n) fun e w'' => e = .returned (.int .i64 l.length) ∧ ∃ m, w'' = W.drewN m :=
  Calls.quiet_of_same ((len_at (h.drewN n)).mono fun _ _ h => ⟨h.1, h.2.symm⟩)
def pairsV (n t : Nat) : Nat := if 262144 / (t + 1) < n then 262145 else n * (t + 1)
theorem pairsV_le {n t : Nat} (h : pairsV n t ≤ 262144) : pairsV n t = n * (t + 1) := by
  unfold pairsV at h ⊢
  by_cases g : 262144 / (t + 1) < n
  · rw [if_pos g] at h; omega
  · rw [if_neg g]
theorem pairsV_min (n t : Nat) : pairsV n t = min (n * (t + 1)) 262145 := by
  unfold pairsV
  by_cases g : 262144 / (t + 1) < n
  · rw [if_pos g]
    have := (Nat.div_lt_iff_lt_mul (by omega)).1 g
    omega
  · rw [if_neg g]
    have h1 : n ≤ 262144 / (t + 1) := by omega
    have := (Nat.le_div_iff_mul_le (by omega)).1 h1
    omega
set_option maxRecDepth 20000 in
theorem pairs_at {W : World} {g : Nat} {l : List I5} {a b : Int} {o : List Int} (h : Ck W g l a b o) (t : ByteArray) (hn : l.length ≤ 4000) (ht : t.size ≤ 1000000) : Calls Try.prog 11 #[.pointer (some ⟨g, 0, none⟩), .string t] W fun e w' => e = .returned (.int .i64 (pairsV l.length t.size : Nat)) ∧ Below W.heap.size W w' := by
  have HC := Aside0.mk h
  have HQ := Aside0.mk (fun n => len_quiet h n)
  have HL := Aside0.mk (fun n => len_at (h.drewN n))
  have hd : Int.tdiv 262144 ((t.size : Int) + 1) = ((262144 / (t.size + 1) : Nat) : Int) := by rw [Int.tdiv_eq_ediv_of_nonneg (by decide)]; rfl
  have hq : 262144 / (t.size + 1) ≤ 262144 := Nat.div_le_self _ _
  have hz : (((t.size : Int) + 1) == 0) = false := beq_eq_false_iff_ne.2 (by omega)
  have wd : IntKind.i64.wrap ((262144 / (t.size + 1) : Nat) : Int) = ((262144 / (t.size + 1) : Nat) : Int) := by rw [IntKind.wrap_i64]; generalize 262144 / (t.size + 1) = dv at hq ⊢; omega
  have ws : IntKind.i64.wrap ((t.size : Int) + 1) = (t.size : Int) + 1 := by rw [IntKind.wrap_i64]; omega
  have HB := Aside0.mk (Below.refl W.heap.size W)
  unfold pairsV
  by_cases c : 262144 / (t.size + 1) < l.length
  · rw [if_pos c]
    have c1 : decide (262144 / (t.size + 1) < l.length) = true := decide_eq_true c
    generalize 262144 / (t.size + 1) = dv at *
    generalize l.length = n at *
    clear h hq c
    go_enter Try.func11, Try.ntmps11
    go_wp2_with fail
    go_quiet (first | exact HQ.out _)
    go_wp2_with fail
    go_ret
    exact ⟨rfl, pw_below_drewN HB.out _⟩
  · rw [if_neg c]
    have c1 : decide (262144 / (t.size + 1) < l.length) = false := decide_eq_false c
    have h1 : l.length ≤ 262144 / (t.size + 1) := by omega
    have hm := (Nat.le_div_iff_mul_le (by omega)).1 h1
    have m1 : IntKind.i64.wrap ((l.length : Int) * ((t.size : Int) + 1)) = ((l.length * (t.size + 1) : Nat) : Int) := by rw [show (l.length : Int) * ((t.size : Int) + 1) = ((l.length * (t.size + 1) : Nat) : Int) by simp, IntKind.wrap_i64]; omega
    generalize 262144 / (t.size + 1) = dv at *
    generalize hnm : l.length * (t.size + 1) = nm at *
    clear hnm h h1 hm
    generalize l.length = n at *
    clear hq c
    go_enter Try.func11, Try.ntmps11
    go_wp2_with fail
    go_quiet (first | exact HQ.out _)
    go_wp2_with fail
    refine (HL.out _).mono ?_
    rintro e w1 ⟨rfl, rfl⟩
    go_wp2_with fail
    go_ret
    exact ⟨rfl, pw_below_drewN HB.out _⟩
end Go.Proofs.YtjajehjhonabdaaX
