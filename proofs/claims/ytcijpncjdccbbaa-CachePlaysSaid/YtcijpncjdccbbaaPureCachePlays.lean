/- CachePlays: whatever is put and linked, the cache is as the reference has it; no condition. -/
import Derived.Test.YtcijpncjdccbbaaHCachePlaysx1
import Derived.Test.YtcijpncjdccbbaaHCachePlaysx2
import Derived.Test.YtcijpncjdccbbaaXCacheWorks
import Derived.Test.YtcijpncjdccbbaaXCacheLinkS
import Derived.Test.YtcijpncjdccbbaaXOpenAct
import Derived.Deep.RegionHeld3
import Derived.IntWalk
namespace Go.Proofs.Ytcijpncjdccbbaa.Pure
open Go.ChangeMaps Go.MapKept Go.RowKit Go.Proofs.YtcijpncjdccbbaaW.PrintWords Go.Proofs.YtcijpncjdccbbaaW.PrintLast Go.Proofs.YtcijpncjdccbbaaW.PrintMore
open Go.Proofs.Ytcijpncjdccbbaa.HCachePlays
open Go.Proofs.YtcijpncjdccbbaaX
set_option linter.unusedVariables false
set_option linter.unusedSimpArgs false
theorem wrap_in {x : Int} (h0 : -9223372036854775808 ≤ x) (h1 : x ≤ 9223372036854775807) : wrap64 x = x := by
  unfold wrap64
  omega
theorem bytes_eq {a b : ByteArray} : a.toList = b.toList ↔ a = b := by
  rw [ByteArray.toList_eq, ByteArray.toList_eq]
  constructor
  · intro h
    have h2 := Array.toList_inj.1 h
    cases a; cases b; simp at h2; rw [h2]
  · intro h; rw [h]
def toL (t : ThS) : S59 := ⟨t.key, t.s⟩
def findG (key : ByteArray) (n : Nat) : List ThS → Int
  | [] => -1
  | t :: ts => if t.key = key then (n : Int) else findG key (n + 1) ts
theorem findG_stands (key : ByteArray) : ∀ (n : Nat) (ts : List ThS), (∃ i, ∃ h : i < ts.length, ts[i].key = key ∧ findG key n ts = ((n + i : Nat) : Int)) ∨ ((∀ t ∈ ts, t.key ≠ key) ∧ findG key n ts = -1)
  | n, [] => .inr ⟨fun t h => (by cases h), rfl⟩
  | n, t :: ts => by
    unfold findG
    by_cases h : t.key = key
    · rw [if_pos h]
      exact .inl ⟨0, by simp, h, rfl⟩
    · rw [if_neg h]
      rcases findG_stands key (n + 1) ts with ⟨i, hi, h1, h2⟩ | ⟨h1, h2⟩
      · refine .inl ⟨i + 1, by simp; omega, h1, ?_⟩
        rw [h2]
        congr 1
        omega
      · refine .inr ⟨fun x hx => ?_, h2⟩
        rcases List.mem_cons.1 hx with rfl | hx
        · exact h
        · exact h1 x hx
theorem stands_find (key : ByteArray) (ts : List ThS) : StandsS ts key (findG key 0 ts) := by
  rcases findG_stands key 0 ts with ⟨i, hi, h1, h2⟩ | ⟨h1, h2⟩
  · exact .inl ⟨i, hi, h1, by rw [h2, Nat.zero_add]⟩
  · exact .inr ⟨h1, h2⟩
theorem find_l0 (key : ByteArray) (m fl : Int) (ts : List ThS) (K : List S46) (hn : ts.length ≤ 100000) (d : Nat) : ∀ i : Nat, i ≤ ts.length → ts.length - i = d →
    Ev (fun k => burinref24_Find.l0 k key (i : Int) m fl (ts.map toL) K) (findG key i (ts.drop i)) := by
  induction d with
  | zero =>
    intro i hi hd
    have e : i = ts.length := by omega
    subst e
    rw [List.drop_of_length_le (Nat.le_refl _)]
    refine Ev.step (fun k => ?_) (Ev.now _)
    simp only [burinref24_Find.l0]
    rw [if_neg (by simp)]
    rfl
  | succ d ih =>
    intro i hi hd
    have hlt : i < ts.length := by omega
    have hrd : rd_T59 (ts.map toL) (i : Int) = toL ts[i] := by simp [rd_T59, hlt]
    rw [List.drop_eq_getElem_cons hlt, findG]
    by_cases h : ts[i].key = key
    · rw [if_pos h]
      refine Ev.step (fun k => ?_) (Ev.now _)
      simp only [burinref24_Find.l0]
      rw [if_pos (by simp; omega), if_pos (by omega), hrd, show (toL ts[i]).f0 = ts[i].key from rfl, if_pos (bytes_eq.2 h)]
    · rw [if_neg h]
      refine Ev.step (fun k => ?_) (ih (i + 1) (by omega) (by omega))
      simp only [burinref24_Find.l0]
      rw [if_pos (by simp; omega), if_pos (by omega), hrd, show (toL ts[i]).f0 = ts[i].key from rfl, if_neg (fun e => h (bytes_eq.1 e)), wrap_in (x := (i : Int) + 1) (by omega) (by omega), show (i : Int) + 1 = ((i + 1 : Nat) : Int) by omega]
theorem find_ev (key : ByteArray) (m fl : Int) (ts : List ThS) (K : List S46) (hn : ts.length ≤ 100000) : Ev (fun k => burinref24_Find.f k m fl (ts.map toL) K key) (findG key 0 ts) := by
  have := find_l0 key m fl ts K hn _ 0 (Nat.zero_le _) rfl
  unfold burinref24_Find.f
  simpa using this
theorem put_hit_ev (key s : ByteArray) (m fl : Int) (ts : List ThS) (K : List S46) (hn : ts.length ≤ 100000) (h : 0 ≤ findG key 0 ts) : Ev (fun k => burinref24_Put.f k m fl (ts.map toL) K key s) (m, fl, ts.map toL, K, findG key 0 ts) := by
  unfold burinref24_Put.f
  refine Ev.bind (find_ev key m fl ts K hn) (Ev.congr (fun k => ?_) (Ev.now _))
  rw [if_pos h]
theorem put_new_ev (key s : ByteArray) (m fl : Int) (ts : List ThS) (K : List S46) (hn : ts.length ≤ 100000) (h : findG key 0 ts = -1) (hf : (ts.length : Int) < m) : Ev (fun k => burinref24_Put.f k m fl (ts.map toL) K key s) (m, fl, (ts ++ [(⟨key, s, fun _ => (0, false, false)⟩ : ThS)]).map toL, K, (ts.length : Int)) := by
  unfold burinref24_Put.f
  refine Ev.bind (find_ev key m fl ts K hn) (Ev.congr (fun k => ?_) (Ev.now _))
  rw [h, if_neg (by omega), if_neg (by simp; omega), if_pos (by simp; omega), Option.bind_some]
  simp only [List.map_append, List.map_cons, List.map_nil, List.length_append, List.length_map, List.length_cons, List.length_nil]
  rw [wrap_in (by omega) (by omega)]
  simp [toL]
theorem put_full_ev (key s : ByteArray) (m fl : Int) (ts : List ThS) (K : List S46) (hn : ts.length ≤ 100000) (h : findG key 0 ts = -1) (hf : m ≤ (ts.length : Int)) (hf0 : 0 ≤ fl) (hf1 : fl ≤ 1000000) : Ev (fun k => burinref24_Put.f k m fl (ts.map toL) K key s) (m, fl + 1, ([⟨key, s, fun _ => (0, false, false)⟩] : List ThS).map toL, [], 0) := by
  unfold burinref24_Put.f
  refine Ev.bind (find_ev key m fl ts K hn) (Ev.congr (fun k => ?_) (Ev.now _))
  rw [h, if_neg (by omega), if_pos (by simp; omega), if_pos (by simp), Option.bind_some, wrap_in (x := fl + 1) (by omega) (by omega)]
  simp only [List.nil_append, List.length_cons, List.length_nil]
  rw [wrap_in (by omega) (by omega)]
  rfl
abbrev Lk := S46
def isAt (a b : Int) (x : Lk) : Bool := decide (x.f0 = a) && decide (x.f1 = b)
def lastK (K : List Lk) (a b : Int) : Option Lk := K.reverse.find? (isAt a b)
def nextR (o : Option Lk) : Int × Int × Int × Bool := match o with
  | some x => (x.f0, x.f1, x.f2, x.f3)
  | none => (-1, 0, -1, false)
theorem next_l0 (a b m fl : Int) (L : List S59) (K : List Lk) (hn : K.length ≤ 100000) : ∀ j : Nat, j ≤ K.length →
    Ev (fun k => burinref24_Next.l0 k a b ((j : Int) - 1) m fl L K) (nextR (lastK (K.take j) a b))
  | 0, _ => by
    refine Ev.step (fun k => ?_) (Ev.now _)
    simp only [burinref24_Next.l0]
    rw [if_neg (by omega)]
    rfl
  | j + 1, hj => by
    have hlt : j < K.length := by omega
    have hrd : rd_T46 K (j : Int) = K[j] := by simp [rd_T46, hlt]
    have e : (((j + 1 : Nat) : Int) - 1) = (j : Int) := by omega
    have et : lastK (K.take (j + 1)) a b = if isAt a b K[j] = true then some K[j] else lastK (K.take j) a b := by
      unfold lastK
      rw [List.take_succ_eq_append_getElem hlt, List.reverse_append]
      simp only [List.reverse_cons, List.reverse_nil, List.nil_append, List.cons_append, List.find?_cons]
      split
      · rename_i h; rw [if_pos h]
      · rename_i h; rw [if_neg (by simpa using h)]
    rw [e, et]
    by_cases h : isAt a b K[j] = true
    · rw [if_pos h]
      unfold isAt at h
      simp only [Bool.and_eq_true, decide_eq_true_eq] at h
      refine Ev.step (fun k => ?_) (Ev.now _)
      simp only [burinref24_Next.l0]
      rw [if_pos (by omega), if_pos (by omega), if_pos (by omega), hrd, if_pos h.1, if_pos h.2]
      rfl
    · rw [if_neg h]
      have ih := next_l0 a b m fl L K hn j (by omega)
      refine Ev.step (fun k => ?_) ih
      simp only [burinref24_Next.l0]
      rw [if_pos (by omega), if_pos (by omega), if_pos (by omega), hrd, wrap_in (x := (j : Int) - 1) (by omega) (by omega)]
      unfold isAt at h
      by_cases h1 : K[j].f0 = a
      · rw [if_pos h1]
        by_cases h2 : K[j].f1 = b
        · exact absurd (by simp [h1, h2]) h
        · rw [if_neg h2]
      · rw [if_neg h1]
theorem next_ev (a b m fl : Int) (L : List S59) (K : List Lk) (hn : K.length ≤ 100000) : Ev (fun k => burinref24_Next.f k m fl L K a b) (nextR (lastK K a b)) := by
  have := next_l0 a b m fl L K hn K.length (Nat.le_refl _)
  rw [List.take_of_length_le (Nat.le_refl _)] at this
  unfold burinref24_Next.f
  rw [wrap_in (x := (K.length : Int) - 1) (by omega) (by omega)]
  exact this
/-- What the links of the two sides have to do with each other. -/
def lkOf (K : List Lk) (a b : Int) : Int × Bool × Bool := match lastK K a b with
  | some x => (x.f2, x.f3, true)
  | none => (0, false, false)
structure Rel (ts : List ThS) (K : List Lk) : Prop where
  lk : ∀ i (h : i < ts.length) (b : Nat), b ≤ 256 → ts[i].lk b = lkOf K i b
  inr : ∀ x ∈ K, 0 ≤ x.f0 ∧ x.f0 < ts.length ∧ 0 ≤ x.f1 ∧ x.f1 ≤ 256
theorem Rel.nil : Rel [] [] := ⟨fun i h => by simp at h, fun x h => by cases h⟩
theorem lastK_mem {K : List Lk} {a b : Int} {x : Lk} (h : lastK K a b = some x) : x ∈ K ∧ x.f0 = a ∧ x.f1 = b := by
  unfold lastK at h
  have h1 := List.find?_some h
  have h2 := List.mem_of_find?_eq_some h
  unfold isAt at h1
  simp only [Bool.and_eq_true, decide_eq_true_eq] at h1
  exact ⟨by simpa using h2, h1⟩
theorem lastK_none {K : List Lk} {a b : Int} (h : ∀ x ∈ K, x.f0 ≠ a ∨ x.f1 ≠ b) : lastK K a b = none := by
  cases e : lastK K a b with
  | none => rfl
  | some x =>
    have := lastK_mem e
    rcases h x this.1 with h | h
    · exact absurd this.2.1 h
    · exact absurd this.2.2 h
theorem lastK_snoc (K : List Lk) (x : Lk) (a b : Int) : lastK (K ++ [x]) a b = if isAt a b x = true then some x else lastK K a b := by
  unfold lastK
  rw [List.reverse_append]
  simp only [List.reverse_cons, List.reverse_nil, List.nil_append, List.cons_append, List.find?_cons]
  split
  · rename_i h; rw [if_pos h]
  · rename_i h; rw [if_neg (by simpa using h)]
theorem Rel.put {ts : List ThS} {K : List Lk} (h : Rel ts K) (key s : ByteArray) : Rel (ts ++ [⟨key, s, fun _ => (0, false, false)⟩]) K := by
  refine ⟨fun i hi b hb => ?_, fun x hx => ?_⟩
  · by_cases hlt : i < ts.length
    · rw [List.getElem_append_left hlt]
      exact h.lk i hlt b hb
    · have e : i = ts.length := by simp at hi; omega
      subst e
      rw [List.getElem_append_right (Nat.le_refl _)]
      simp only [Nat.sub_self, List.getElem_cons_zero]
      unfold lkOf
      rw [lastK_none (fun x hx => .inl (by have := h.inr x hx; omega))]
  · have := h.inr x hx
    simp
    omega
theorem Rel.flush (key s : ByteArray) : Rel [⟨key, s, fun _ => (0, false, false)⟩] [] := Rel.nil.put key s
theorem Rel.link {ts : List ThS} {K : List Lk} (h : Rel ts K) (i j b : Nat) (hi : i < ts.length) (hj : j < ts.length) (hb : b ≤ 256) (mark : Bool) : Rel (ts.set i ⟨ts[i].key, ts[i].s, updL ts[i].lk b (j, mark, true)⟩) (K ++ [⟨i, b, j, mark⟩]) := by
  refine ⟨fun k hk b' hb' => ?_, fun x hx => ?_⟩
  · have hk' : k < ts.length := by rw [List.length_set] at hk; exact hk
    unfold lkOf
    rw [lastK_snoc]
    by_cases e : k = i
    · subst e
      rw [List.getElem_set_self]
      by_cases e2 : b' = b
      · subst e2
        rw [if_pos (by simp [isAt])]
        simp [updL]
      · rw [if_neg (by simp [isAt]; omega)]
        simp only [updL, if_neg e2]
        exact h.lk k hi b' hb'
    · rw [List.getElem_set_ne (fun x => e x.symm), if_neg (by simp [isAt]; omega)]
      exact h.lk k hk' b' hb'
  · rw [List.length_set]
    rcases List.mem_append.1 hx with hx | hx
    · exact h.inr x hx
    · simp only [List.mem_singleton] at hx
      subst hx
      simp only
      omega
/-- What stands in memory: the cache, and the reference's own. -/
structure StP (w : World) (base C RB : Nat) (m fl : Int) (ts : List ThS) (K : List Lk) : Prop where
  hc : CacheS w base C m fl ts
  hr : ∃ vL vK : Value, w.heap[RB]? = some (.cells #[.int .i64 m, .int .i64 fl, vL, vK] 40 (0, 0)) ∧ Kd.R k59 59 w base (fun k => some k = vL.ownBlock) vL (ts.map toL) ∧ Kd.R k46 46 w base (fun k => some k = vK.ownBlock) vK K
  hb : base ≤ RB
  rel : Rel ts K
  len : (ts.length : Int) ≤ m
theorem StP.below {w w' : World} {base C RB : Nat} {m fl : Int} {ts : List ThS} {K : List Lk} (h : StP w base C RB m fl ts K) (hb : Below w.heap.size w w') : StP w' base C RB m fl ts K := by
  obtain ⟨vL, vK, h1, h2, h3⟩ := h.hr
  exact ⟨h.hc.below hb, ⟨vL, vK, (hb.block _ (blk_lt h1)).trans h1, Kd.R_below h2 hb, Kd.R_below h3 hb⟩, h.hb, h.rel, h.len⟩
/-- A call of the cache leaves the reference's rows. -/
theorem StP.cache {w w' : World} {base C RB : Nat} {m fl' : Int} {ts' : List ThS} {K : List Lk} {vL vK : Value} (hc : CacheS w' base C m fl' ts') (hf : FrameS w w')
    (h1 : w.heap[RB]? = some (.cells #[.int .i64 m, .int .i64 fl', vL, vK] 40 (0, 0))) (h2 : Kd.R k59 59 w base (fun k => some k = vL.ownBlock) vL (ts'.map toL)) (h3 : Kd.R k46 46 w base (fun k => some k = vK.ownBlock) vK K)
    (hb : base ≤ RB) (rel : Rel ts' K) (hl : (ts'.length : Int) ≤ m) : StP w' base C RB m fl' ts' K := by
  refine ⟨hc, ⟨vL, vK, (hf.2 RB _ _ h1 (by decide) (by decide) (by decide)).trans h1, ?_, ?_⟩, hb, rel, hl⟩
  · refine Kd.R_mono (Kd.R_step (Kd.R_bound h2) (fun k hk hlt => ?_)) (fun k hk => hk.1)
    obtain ⟨q, hq, cells, hcl⟩ := hk.2.2.2
    have hq' : q = 59 := by { have hE : (k59).E = [] := rfl; rw [hE] at hq; simpa using hq }
    subst hq'
    exact hf.2 k _ _ hcl (by decide) (by decide) (by decide)
  · refine Kd.R_mono (Kd.R_step (Kd.R_bound h3) (fun k hk hlt => ?_)) (fun k hk => hk.1)
    obtain ⟨q, hq, cells, hcl⟩ := hk.2.2.2
    have hq' : q = 46 := by { have hE : (k46).E = [] := rfl; rw [hE] at hq; simpa using hq }
    subst hq'
    exact hf.2 k _ _ hcl (by decide) (by decide) (by decide)
/-- A call of the reference leaves the cache. -/
theorem cacheS_kept {w w' : World} {base C : Nat} {m fl : Int} {ts : List ThS} (h : CacheS w base C m fl ts) {S : Nat → Prop} (hk : Kept w w' S)
    (hS : ∀ k, S k → ∃ (cells : Array Value) (q : TypeId), w.heap[k]? = some (Obj.cells cells q (0, 0)) ∧ (q ≠ 76 ∧ q ≠ 79 ∧ q ≠ 78)) : CacheS w' base C m fl ts := by
  obtain ⟨M, A, cap, ps, D, h⟩ := h
  have hno : ∀ (k : Nat) (o : Obj), w.heap[k]? = some o → (∀ cells q, o = Obj.cells cells q (0, 0) → q = 76 ∨ q = 79 ∨ q = 78) → w'.heap[k]? = w.heap[k]? := fun k o ho hq => by
    refine hk.2 k (blk_lt ho) (fun hs => ?_)
    obtain ⟨cells, q, h1, h2⟩ := hS k hs
    rw [ho] at h1
    have := hq cells q (Option.some.inj h1)
    rcases this with h | h | h
    · exact h2.1 h
    · exact h2.2.1 h
    · exact h2.2.2 h
  refine ⟨M, A, cap, ps, D, ⟨(hno C _ h.hC (fun cells q e => by injection e with _ e; exact .inl e.symm)).trans h.hC, h.hbC, h.hbM, ?_, h.hD, ?_, h.hlen, h.hnd, fun i h1 h2 => ⟨(h.hk i h1 h2).1, ?_⟩⟩⟩
  · obtain ⟨es, clock, hb1, F, hs, hD⟩ := h.hM
    exact ⟨es, clock, (hno M _ hb1 (fun cells q e => by cases e)).trans hb1, F, hs, hD⟩
  · refine Kd.R_mono (Kd.R_step (Kd.R_bound h.hR) (fun k hk' hlt => ?_)) (fun k hk => trivial)
    obtain ⟨q, hq, cells, hcl⟩ := hk'.2.2.2
    have hq' : q = 79 := by simpa [kPtr, Kd.scalar] using hq
    subst hq'
    exact hno k _ hcl (fun cells q e => by injection e with _ e; exact .inr (.inl e.symm))
  · obtain ⟨cells, h1, h2⟩ := (h.hk i h1 h2).2
    exact ⟨cells, (hno _ _ h1 (fun cells q e => by injection e with _ e; exact .inr (.inr e.symm))).trans h1, h2⟩
theorem own_types {w : World} {base : Nat} {vL vK : Value} {L : List S59} {K : List Lk} (h2 : Kd.R k59 59 w base (fun k => some k = vL.ownBlock) vL L) (h3 : Kd.R k46 46 w base (fun k => some k = vK.ownBlock) vK K) :
    ∀ k, (some k = vL.ownBlock ∨ some k = vK.ownBlock) → ∃ (cells : Array Value) (q : TypeId), w.heap[k]? = some (Obj.cells cells q (0, 0)) ∧ (q = 59 ∨ q = 46) := by
  intro k hk
  rcases hk with hk | hk
  · obtain ⟨q, hq, cells, hcl⟩ := ((Kd.R_bound h2).1 k hk.symm).2.2.2
    have hq' : q = 59 := by { have hE : (k59).E = [] := rfl; rw [hE] at hq; simpa using hq }
    exact ⟨cells, q, hcl, .inl hq'⟩
  · obtain ⟨q, hq, cells, hcl⟩ := ((Kd.R_bound h3).1 k hk.symm).2.2.2
    have hq' : q = 46 := by { have hE : (k46).E = [] := rfl; rw [hE] at hq; simpa using hq }
    exact ⟨cells, q, hcl, .inr hq'⟩
/-- What a call of the reference leaves. -/
def RefPost (w W : World) (base C RB AB : Nat) (m fl fl' : Int) (ts ts' : List ThS) (K : List Lk) (x : Value) (e : Ending) (w' : World) : Prop :=
  ∃ vL vK : Value, e = .returned (.tuple #[.agg #[.int .i64 m, .int .i64 fl', vL, vK], x]) ∧ Kd.R k59 59 w' base (fun k => some k = vL.ownBlock) vL (ts'.map toL) ∧ Kd.R k46 46 w' base (fun k => some k = vK.ownBlock) vK K ∧ Below base w w' ∧ CacheS w' base C m fl ts ∧ w'.heap[RB]? = W.heap[RB]? ∧ w'.heap[AB]? = W.heap[AB]?
theorem ref_post {w W w' : World} {C RB AB : Nat} {m fl fl' : Int} {ts ts' : List ThS} {K K' : List Lk} {x vL vK v2 v3 : Value} {cells : Array Value}
    (hc : CacheS W w.heap.size C m fl ts) (h2 : Kd.R k59 59 W w.heap.size (fun k => some k = vL.ownBlock) vL (ts.map toL)) (h3 : Kd.R k46 46 W w.heap.size (fun k => some k = vK.ownBlock) vK K)
    (hRB : ∃ cells : Array Value, W.heap[RB]? = some (.cells cells 40 (0, 0))) (hAB : W.heap[AB]? = some (.cells cells 42 (0, 0)))
    (g2 : Kd.R k59 59 w' w.heap.size (fun k_ => ((some k_ = vL.ownBlock ∨ some k_ = vK.ownBlock) ∨ W.heap.size ≤ k_)) v2 (ts'.map toL)) (g3 : Kd.R k46 46 w' w.heap.size (fun k_ => ((some k_ = vL.ownBlock ∨ some k_ = vK.ownBlock) ∨ W.heap.size ≤ k_)) v3 K')
    (hb : Below w.heap.size w w') (hk : Kept W w' (fun k_ => some k_ = vL.ownBlock ∨ some k_ = vK.ownBlock)) : RefPost w W w.heap.size C RB AB m fl fl' ts ts' K' x (.returned (.tuple #[.agg #[.int .i64 m, .int .i64 fl', v2, v3], x])) w' := by
  have ht := own_types h2 h3
  have hq : ∀ (k : Nat) (cells : Array Value) (q : TypeId), W.heap[k]? = some (.cells cells q (0, 0)) → q ≠ 59 → q ≠ 46 → w'.heap[k]? = W.heap[k]? := fun k cells q hc n1 n2 => by
    refine hk.2 k (blk_lt hc) (fun hs => ?_)
    obtain ⟨cells', q', e1, e2⟩ := ht k hs
    rw [hc] at e1
    injection e1 with e1
    injection e1 with _ e1
    subst e1
    rcases e2 with e2 | e2
    · exact n1 e2
    · exact n2 e2
  obtain ⟨cellsR, hRB⟩ := hRB
  refine ⟨v2, v3, rfl, Kd.R_tight rfl g2, Kd.R_tight rfl g3, hb, cacheS_kept hc hk (fun k hs => ?_), hq RB _ _ hRB (by decide) (by decide), hq AB _ _ hAB (by decide) (by decide)⟩
  obtain ⟨cells', q', e1, e2⟩ := ht k hs
  refine ⟨cells', q', e1, ?_⟩
  rcases e2 with rfl | rfl <;> decide
theorem join_call {w W : World} {C RB AB : Nat} {m fl : Int} {ts : List ThS} {K : List Lk} {vL vK : Value} {cells : Array Value} (a b c : Int) (mark : Bool) (hB : Below w.heap.size w W)
    (hc : CacheS W w.heap.size C m fl ts) (h2 : Kd.R k59 59 W w.heap.size (fun k => some k = vL.ownBlock) vL (ts.map toL)) (h3 : Kd.R k46 46 W w.heap.size (fun k => some k = vK.ownBlock) vK K)
    (hRB : ∃ cells : Array Value, W.heap[RB]? = some (.cells cells 40 (0, 0))) (hAB : W.heap[AB]? = some (.cells cells 42 (0, 0))) (hn : K.length ≤ 100000) (K' : List Lk) (ok : Bool)
    (hK : (K', ok) = if (0 ≤ a ∧ a < ts.length) ∧ (0 ≤ c ∧ c < ts.length) ∧ 0 ≤ b ∧ b ≤ 256 then (K ++ [⟨a, b, c, mark⟩], true) else (K, false)) :
    Calls Try.prog 13 #[.agg #[.int .i64 m, .int .i64 fl, vL, vK], .agg #[.int .i64 a, .int .i64 b, .int .i64 c, .bool mark]] W (RefPost w W w.heap.size C RB AB m fl fl ts ts K' (.bool ok)) := by
  have hf : burinref24_Join.f m fl (ts.map toL) K a b c mark = some (m, fl, ts.map toL, K', ok) := by
    unfold burinref24_Join.f
    rw [List.length_map]
    by_cases hv : (0 ≤ a ∧ a < ts.length) ∧ (0 ≤ c ∧ c < ts.length) ∧ 0 ≤ b ∧ b ≤ 256
    · rw [if_pos hv] at hK
      injection hK with e1 e2
      subst e1 e2
      rw [if_neg (by omega), if_neg (by omega), if_neg (by omega), if_neg (by omega), if_neg (by omega), if_neg (by omega), if_pos (by omega)]
    · rw [if_neg hv] at hK
      injection hK with e1 e2
      subst e1 e2
      repeat' split
      all_goals first | rfl | (exfalso; omega)
  refine (burinref24_Join.calls m fl _ vL (ts.map toL) _ vK K a b c mark m fl _ K' ok w W hB h2 h3 hf).mono fun e w' ⟨v2, v3, he, g2, g3, hb, hk⟩ => ?_
  subst he
  exact ref_post hc h2 h3 hRB hAB g2 g3 hb hk
theorem put_call {w W : World} {C RB AB : Nat} {m fl fl' : Int} {ts ts' : List ThS} {K K' : List Lk} {vL vK : Value} {cells : Array Value} (key s : ByteArray) (r : Int) (hB : Below w.heap.size w W)
    (hc : CacheS W w.heap.size C m fl ts) (h2 : Kd.R k59 59 W w.heap.size (fun k => some k = vL.ownBlock) vL (ts.map toL)) (h3 : Kd.R k46 46 W w.heap.size (fun k => some k = vK.ownBlock) vK K)
    (hRB : ∃ cells : Array Value, W.heap[RB]? = some (.cells cells 40 (0, 0))) (hAB : W.heap[AB]? = some (.cells cells 42 (0, 0)))
    (hE : Ev (fun k => burinref24_Put.f k m fl (ts.map toL) K key s) (m, fl', ts'.map toL, K', r)) :
    Calls Try.prog 15 #[.agg #[.int .i64 m, .int .i64 fl, vL, vK], .string key, .string s] W (RefPost w W w.heap.size C RB AB m fl fl' ts ts' K' (.int .i64 r)) := by
  obtain ⟨k, hk⟩ := Ev.rounds hE
  refine (burinref24_Put.calls k m fl _ vL (ts.map toL) _ vK K key s m fl' _ K' r w W hB h2 h3 hk).mono fun e w' ⟨v2, v3, he, g2, g3, hb, hk⟩ => ?_
  subst he
  exact ref_post hc h2 h3 hRB hAB g2 g3 hb hk
/-- The reference's state, stored whole. -/
theorem store_ref {w W : World} {base C RB AB : Nat} {m fl : Int} {ts : List ThS} {L : List S59} {K : List Lk} {vL vK p0 p1 p2 p3 q0 q1 q2 q3 : Value} {cells : Array Value}
    (hR : W.heap[RB]? = some (.cells #[p0, p1, p2, p3] 40 (0, 0))) (hb : base ≤ RB) (hB : Below base w W) (hc : CacheS W base C m fl ts)
    (h2 : Kd.R k59 59 W base (fun k => some k = vL.ownBlock) vL L) (h3 : Kd.R k46 46 W base (fun k => some k = vK.ownBlock) vK K)
    (hAB : W.heap[AB]? = some (.cells cells 42 (0, 0))) :
    ((((W.setCell ⟨RB, 0, none⟩ q0).setCell ⟨RB, 1, none⟩ q1).setCell ⟨RB, 2, none⟩ q2).setCell ⟨RB, 3, none⟩ q3).heap[RB]? = some (.cells #[q0, q1, q2, q3] 40 (0, 0)) ∧
    Below base w ((((W.setCell ⟨RB, 0, none⟩ q0).setCell ⟨RB, 1, none⟩ q1).setCell ⟨RB, 2, none⟩ q2).setCell ⟨RB, 3, none⟩ q3) ∧
    CacheS ((((W.setCell ⟨RB, 0, none⟩ q0).setCell ⟨RB, 1, none⟩ q1).setCell ⟨RB, 2, none⟩ q2).setCell ⟨RB, 3, none⟩ q3) base C m fl ts ∧
    Kd.R k59 59 ((((W.setCell ⟨RB, 0, none⟩ q0).setCell ⟨RB, 1, none⟩ q1).setCell ⟨RB, 2, none⟩ q2).setCell ⟨RB, 3, none⟩ q3) base (fun k => some k = vL.ownBlock) vL L ∧
    Kd.R k46 46 ((((W.setCell ⟨RB, 0, none⟩ q0).setCell ⟨RB, 1, none⟩ q1).setCell ⟨RB, 2, none⟩ q2).setCell ⟨RB, 3, none⟩ q3) base (fun k => some k = vK.ownBlock) vK K ∧
    ((((W.setCell ⟨RB, 0, none⟩ q0).setCell ⟨RB, 1, none⟩ q1).setCell ⟨RB, 2, none⟩ q2).setCell ⟨RB, 3, none⟩ q3).heap[AB]? = some (.cells cells 42 (0, 0)) := by
  have e1 := blk_put hR 0 q0 rfl
  have e2 := blk_put e1 1 q1 rfl
  have e3 := blk_put e2 2 q2 rfl
  have e4 := blk_put e3 3 q3 rfl
  have hot : ∀ k, k ≠ RB → ((((W.setCell ⟨RB, 0, none⟩ q0).setCell ⟨RB, 1, none⟩ q1).setCell ⟨RB, 2, none⟩ q2).setCell ⟨RB, 3, none⟩ q3).heap[k]? = W.heap[k]? := fun k hk => by
    rw [Below.heap_setCell _ ⟨RB, 3, none⟩ _ k hk, Below.heap_setCell _ ⟨RB, 2, none⟩ _ k hk, Below.heap_setCell _ ⟨RB, 1, none⟩ _ k hk, Below.heap_setCell _ ⟨RB, 0, none⟩ _ k hk]
  refine ⟨e4, (((hB.setCell (p := ⟨RB, 0, none⟩) hb _).setCell (p := ⟨RB, 1, none⟩) hb _).setCell (p := ⟨RB, 2, none⟩) hb _).setCell (p := ⟨RB, 3, none⟩) hb _, ?_, ?_, ?_, ?_⟩
  · refine cacheS_kept hc (S := fun k => k = RB) ⟨by simp [World.setCell], fun k _ hk => hot k hk⟩ (fun k hk => ?_)
    subst hk
    exact ⟨_, _, hR, by decide⟩
  · refine Kd.R_mono (Kd.R_step (Kd.R_bound h2) (fun k hk hlt => hot k fun e => ?_)) (fun k hk => hk.1)
    obtain ⟨q, hq, cells, hcl⟩ := hk.2.2.2
    have hq' : q = 59 := by { have hE : (k59).E = [] := rfl; rw [hE] at hq; simpa using hq }
    subst hq'
    rw [e, hR] at hcl
    injection hcl with hcl
    injection hcl with _ hcl
    exact absurd hcl (by decide)
  · refine Kd.R_mono (Kd.R_step (Kd.R_bound h3) (fun k hk hlt => hot k fun e => ?_)) (fun k hk => hk.1)
    obtain ⟨q, hq, cells, hcl⟩ := hk.2.2.2
    have hq' : q = 46 := by { have hE : (k46).E = [] := rfl; rw [hE] at hq; simpa using hq }
    subst hq'
    rw [e, hR] at hcl
    injection hcl with hcl
    injection hcl with _ hcl
    exact absurd hcl (by decide)
  · refine (hot AB fun e => ?_).trans hAB
    rw [e, hR] at hAB
    injection hAB with hAB
    injection hAB with _ hAB
    exact absurd hAB (by decide)
theorem put_both {base C : Nat} {m fl : Int} {ts : List ThS} {K : List Lk} (hm1 : 1 ≤ m) (hm : m ≤ 4000) (rel : Rel ts K) (hl : (ts.length : Int) ≤ m) (hf : 0 ≤ fl ∧ fl ≤ 1000) (key s : ByteArray) (hkey : key.size ≤ maxLen) :
    ∃ (fl' : Int) (ts' : List ThS) (K' : List Lk) (r : Int), Ev (fun k => burinref24_Put.f k m fl (ts.map toL) K key s) (m, fl', ts'.map toL, K', r) ∧
      (∀ W : World, CacheS W base C m fl ts → base ≤ W.heap.size → Calls Try.prog 16 #[.pointer (some ⟨C, 0, none⟩), .string key, .string s] W fun e w' => e = .returned (.int .i64 r) ∧ CacheS w' base C m fl' ts' ∧ Below base W w' ∧ FrameS W w') ∧
      Rel ts' K' ∧ (ts'.length : Int) ≤ m ∧ 0 ≤ fl' ∧ fl' ≤ fl + 1 ∧ ts'.length ≤ ts.length + 1 ∧ K'.length ≤ K.length := by
  by_cases h0 : 0 ≤ findG key 0 ts
  · refine ⟨fl, ts, K, findG key 0 ts, put_hit_ev key s m fl ts K (by omega) h0, fun W hc hb => ?_, rel, hl, hf.1, by omega, by omega, Nat.le_refl _⟩
    exact (putS_hit W base C m fl ts hc key hkey _ (stands_find key ts) h0 s).mono fun e w' ⟨he, hb'⟩ => ⟨he, hc.below hb', hb'.mono hb, FrameS.below hb'⟩
  · have hst : (∀ t ∈ ts, t.key ≠ key) ∧ findG key 0 ts = -1 := by
      rcases stands_find key ts with ⟨i, hi, _, h⟩ | h
      · rw [h] at h0; omega
      · exact h
    by_cases hr : (ts.length : Int) < m
    · refine ⟨fl, ts ++ [⟨key, s, fun _ => (0, false, false)⟩], K, ts.length, put_new_ev key s m fl ts K (by omega) hst.2 hr, fun W hc hb => ?_, rel.put key s, by simp; omega, hf.1, by omega, by simp, Nat.le_refl _⟩
      exact putS_new W base C m fl ts ts.length rfl hc hb (by omega) key hkey hst.1 (by omega) s
    · refine ⟨fl + 1, [⟨key, s, fun _ => (0, false, false)⟩], [], 0, put_full_ev key s m fl ts K (by omega) hst.2 (by omega) hf.1 (by omega), fun W hc hb => ?_, Rel.flush key s, by simp; omega, by omega, by omega, by simp, Nat.zero_le _⟩
      exact putS_full W base C m fl ts ts.length rfl hc hb (by omega) key hkey hst.1 (by omega) hf.1 (by omega) s
def ansK (o : Option Lk) : Array Value := match o with
  | some x => #[.int .i64 x.f2, .bool x.f3, .bool true]
  | none => #[.int .i64 (-1), .bool false, .bool false]
theorem next_vals {ts : List ThS} {K : List Lk} (rel : Rel ts K) (a b : Int) : ∃ (F0 F1 T : Int) (M okb : Bool), nextR (lastK K a b) = (F0, F1, T, M) ∧ ansK (lastK K a b) = #[.int .i64 T, .bool M, .bool okb] ∧ decide (0 ≤ F0) = okb := by
  cases h : lastK K a b with
  | none => exact ⟨-1, 0, -1, false, false, rfl, rfl, rfl⟩
  | some x => exact ⟨x.f0, x.f1, x.f2, x.f3, true, rfl, rfl, decide_eq_true (rel.inr x (lastK_mem h).1).1⟩
theorem next_both {W : World} {base C : Nat} {m fl : Int} {ts : List ThS} {K : List Lk} (hc : CacheS W base C m fl ts) (rel : Rel ts K) (a b : Int) :
    Calls Try.prog 18 #[.pointer (some ⟨C, 0, none⟩), .int .i64 a, .int .i64 b] W fun e w' => e = .returned (.tuple (ansK (lastK K a b))) ∧ Below W.heap.size W w' := by
  by_cases hv : (0 ≤ a ∧ a < ts.length) ∧ 0 ≤ b ∧ b ≤ 256
  · obtain ⟨i, rfl⟩ : ∃ i : Nat, a = i := ⟨a.toNat, by omega⟩
    obtain ⟨bn, rfl⟩ : ∃ bn : Nat, b = bn := ⟨b.toNat, by omega⟩
    have hi : i < ts.length := by omega
    have hl := rel.lk i hi bn (by omega)
    refine (nextS W base C m fl ts hc i hi bn (by omega) _ hl).mono fun e w' ⟨he, hb⟩ => ⟨?_, hb⟩
    rw [he]
    unfold lkOf ansK
    cases lastK K i bn with
    | none => rfl
    | some x => rfl
  · have hn : lastK K a b = none := lastK_none (fun x hx => by
      have := rel.inr x hx
      by_cases e1 : x.f0 = a
      · right; intro e2; exact hv ⟨by omega, by omega⟩
      · exact .inl e1)
    refine (nextS_bad W base C m fl ts hc a b hv).mono fun e w' ⟨he, hw⟩ => ⟨?_, hw ▸ Below.refl _ _⟩
    rw [he, hn]
    rfl
theorem rnext_call {W : World} {base : Nat} {m fl : Int} {ts : List ThS} {K : List Lk} {LA KA : Option Addr} {nL nK Lc Kc : Nat} (a b : Int) (hnL : nL = (ts.map toL).length) (hnK : nK = K.length) (hK : K.length ≤ 100000)
    (h2 : Kd.R k59 59 W base (fun k => some k = (Value.slice LA nL Lc).ownBlock) (.slice LA nL Lc) (ts.map toL)) (h3 : Kd.R k46 46 W base (fun k => some k = (Value.slice KA nK Kc).ownBlock) (.slice KA nK Kc) K)
    {F0 F1 T : Int} {M : Bool} (hv : nextR (lastK K a b) = (F0, F1, T, M)) :
    Calls Try.prog 17 #[.agg #[.int .i64 m, .int .i64 fl, .slice LA nL Lc, .slice KA nK Kc], .int .i64 a, .int .i64 b] W fun e w' => e = .returned (.agg #[.int .i64 F0, .int .i64 F1, .int .i64 T, .bool M]) ∧ Below W.heap.size W w' := by
  subst hnL hnK
  obtain ⟨k, hk⟩ := Ev.rounds (next_ev a b m fl (ts.map toL) K hK)
  rw [hv] at hk
  exact burinref24_Next.calls k m fl LA Lc (ts.map toL) KA Kc K a b F0 F1 T M W (Kd.R_reads' h2).2.2 (Kd.R_reads' h2).2.1 (Kd.R_reads' h3).2.2 (Kd.R_reads' h3).2.1 hk
theorem rfind_call {W : World} {base : Nat} {m fl : Int} {ts : List ThS} {K : List Lk} {LA KA : Option Addr} {nL nK Lc Kc : Nat} (key : ByteArray) (hnL : nL = (ts.map toL).length) (hnK : nK = K.length) (hn : ts.length ≤ 100000)
    (h2 : Kd.R k59 59 W base (fun k => some k = (Value.slice LA nL Lc).ownBlock) (.slice LA nL Lc) (ts.map toL)) (h3 : Kd.R k46 46 W base (fun k => some k = (Value.slice KA nK Kc).ownBlock) (.slice KA nK Kc) K) :
    Calls Try.prog 22 #[.agg #[.int .i64 m, .int .i64 fl, .slice LA nL Lc, .slice KA nK Kc], .string key] W fun e w' => e = .returned (.int .i64 (findG key 0 ts)) ∧ Below W.heap.size W w' := by
  subst hnL hnK
  obtain ⟨k, hk⟩ := Ev.rounds (find_ev key m fl ts K hn)
  exact burinref24_Find.calls k m fl LA Lc (ts.map toL) KA Kc K key _ W (Kd.R_reads' h2).2.2 (Kd.R_reads' h2).2.1 (Kd.R_reads' h3).2.2 (Kd.R_reads' h3).2.1 hk
theorem keep8 {W : World} {WB RB AB : Nat} {p0 p1 p2 p3 u0 u1 u2 u3 v0 v1 v2 v3 v4 v5 v6 : Value} (h1 : W.heap[WB]? = some (.cells #[p0, p1, p2, p3] 46 (0, 0))) (h2 : W.heap[RB]? = some (.cells #[u0, u1, u2, u3] 40 (0, 0))) (h3 : W.heap[AB]? = some (.cells #[v0, v1, v2, v3, v4, v5, v6] 42 (0, 0))) :
    W.cell? ⟨WB, 0, none⟩ = some p0 ∧ W.cell? ⟨WB, 2, none⟩ = some p2 ∧ W.cell? ⟨WB, 3, none⟩ = some p3 ∧ W.cell? ⟨RB, 0, none⟩ = some u0 ∧ W.cell? ⟨RB, 1, none⟩ = some u1 ∧ W.cell? ⟨RB, 2, none⟩ = some u2 ∧ W.cell? ⟨RB, 3, none⟩ = some u3 ∧ W.cell? ⟨AB, 1, none⟩ = some v1 :=
  ⟨(blk_cell h1 0).trans rfl, (blk_cell h1 2).trans rfl, (blk_cell h1 3).trans rfl, (blk_cell h2 0).trans rfl, (blk_cell h2 1).trans rfl, (blk_cell h2 2).trans rfl, (blk_cell h2 3).trans rfl, (blk_cell h3 1).trans rfl⟩
theorem map_set_toL (ts : List ThS) (i : Nat) (hi : i < ts.length) (l : Nat → Int × Bool × Bool) : (ts.set i ⟨ts[i].key, ts[i].s, l⟩).map toL = ts.map toL := by
  rw [List.map_set]
  apply List.ext_getElem
  · simp
  · intro k h1 h2
    rw [List.getElem_set]
    split
    · rename_i e
      subst e
      simp [toL]
    · rfl
theorem cell_at {W : World} {ad : Addr} {i j : Nat} {u : Value} (h : W.cell? (ad.add (i + j)) = some u) (hj : j ≠ 0) : W.cell? ⟨(ad.add i).block, (ad.add i).off + j, none⟩ = some u := by
  rw [← Deep.add_add] at h
  unfold Addr.add at h
  rw [if_neg hj] at h
  exact h
set_option maxHeartbeats 8000000 in
set_option maxRecDepth 100000 in
theorem CachePlays_walk (most : Int) (A : Option Addr) (cap : Nat) (zs : List ActT) (w : World) (hA : Kd.C kAct w A zs.length zs) (hcap : zs.length ≤ cap) (hks : ∀ x ∈ zs, x.key.size ≤ maxLen) :
    Calls Try.prog 4 #[.int .i64 most, .slice A zs.length cap] w (fun e w' => e = .returned (.bool true) ∧ Below w.heap.size w w') := by
  by_cases hbad : most < 1 ∨ most > 4000
  · have HN := Aside0.mk (newS_bad most hbad w)
    generalize zs.length = n at *
    clear hA hks
    by_cases h1 : most < 1
    · have hm1 : decide (most < 1) = true := decide_eq_true h1
      clear hbad h1
      go_enter Try.func4, Try.ntmps4
      go_wp2_with fail
      refine HN.out.mono ?_
      rintro e w1 ⟨rfl, rfl⟩
      go_wp2_with fail
      refine (works_any _).mono ?_
      rintro e w2 ⟨rfl, hb2⟩
      go_wp2
      go_ret
      exact ⟨rfl, hb2⟩
    · have hm1 : decide (most < 1) = false := decide_eq_false h1
      have hm2 : decide (4000 < most) = true := decide_eq_true (by omega)
      clear hbad h1
      go_enter Try.func4, Try.ntmps4
      go_wp2_with fail
      refine HN.out.mono ?_
      rintro e w1 ⟨rfl, rfl⟩
      go_wp2_with fail
      refine (works_any _).mono ?_
      rintro e w2 ⟨rfl, hb2⟩
      go_wp2
      go_ret
      exact ⟨rfl, hb2⟩
  · have HN := Aside0.mk (newS most (by omega) (by omega) w)
    have HA := Aside0.mk hA
    have HKS := Aside0.mk hks
    obtain ⟨n, hn⟩ : ∃ n, n = zs.length := ⟨_, rfl⟩
    have HZN := Aside0.mk hn
    rw [← hn] at HA hcap ⊢
    have HM := Aside0.mk (show 1 ≤ most ∧ most ≤ 4000 by omega)
    have hm1 : decide (most < 1) = false := decide_eq_false (by omega)
    have hm2 : decide (4000 < most) = false := decide_eq_false (by omega)
    clear hbad hA hks hn
    go_enter Try.func4, Try.ntmps4
    go_wp2_with fail
    refine HN.out.mono ?_
    rintro e w1 ⟨C, rfl, hC1, hb1⟩
    have HC1 := Aside0.mk hC1
    have HB1 := Aside0.mk hb1
    clear hC1 hb1 HN
    go_wp2_with fail
    have HS1 := Aside0.mk (show StP (w1.alloc (.cells #[.int .i64 most, .int .i64 0, .slice none 0 0, .slice none 0 0] 40)) w.heap.size C w1.heap.size most 0 [] [] from ⟨HC1.out.below ((Below.refl _ w1).alloc (Nat.le_refl _) _), ⟨_, _, heap_alloc_at w1 _, Kd.R_nil _ _ _ _ _, Kd.R_nil _ _ _ _ _⟩, HB1.out.size, Rel.nil, by have := HM.out; simp; omega⟩)
    have HB2 := Aside0.mk (show Below w.heap.size w (w1.alloc (.cells #[.int .i64 most, .int .i64 0, .slice none 0 0, .slice none 0 0] 40)) from HB1.out.trans (((Below.refl _ w1).alloc (Nat.le_refl _) _).mono HB1.out.size))
    clear HC1
    obtain ⟨RB, hRB⟩ : ∃ RB, RB = w1.heap.size := ⟨_, rfl⟩
    rw [← hRB] at HS1 ⊢
    clear hRB
    generalize w1.alloc (.cells #[.int .i64 most, .int .i64 0, .slice none 0 0, .slice none 0 0] 40) = wa at HS1 HB2 ⊢
    clear HB1
    go_loopg [8] n (fun g s8 wr => ∃ (k : Nat) (fl : Int) (ts : List ThS) (K : List Lk), k ≤ n ∧ k ≤ 100 ∧ n - k ≤ g ∧ s8 = .int .i64 k ∧ Aside0 (StP wr w.heap.size C RB most fl ts K) ∧ Aside0 (Below w.heap.size w wr) ∧ Aside0 (0 ≤ fl ∧ fl ≤ k ∧ ts.length ≤ k ∧ K.length ≤ k))
    case atStart => exact ⟨0, 0, [], [], by omega, by omega, by omega, rfl, HS1, HB2, ⟨by simp⟩⟩
    case round =>
      clear HS1 HB2
      obtain ⟨k, fl, ts, K, hk, hk100, hg, rfl, HS, HB, HL⟩ := hrel
      by_cases hlt : k < n
      · by_cases h100 : k < 100
        · have hf := Kd.C_below HA.out HB.out
          rw [HZN.out] at hf
          obtain ⟨ad, cs, e1, hcl, hK, hcell⟩ := ReadsRow.get_ hf (default : ActT) (k : Int) (by omega) (by have := HZN.out; omega)
          have hkz : k < zs.length := by have := HZN.out; omega
          have hx : zs.getD ((k : Int)).toNat default = zs[k] := by
            rw [Int.toNat_natCast, List.getD_eq_getElem?_getD, List.getElem?_eq_getElem hkz]
            rfl
          rw [hx] at hK
          have HKEY := Aside0.mk (HKS.out _ (List.getElem_mem hkz))
          generalize zs[k] = x at hK HKEY
          obtain ⟨kind, key, sv, a, b, c, mark⟩ := x
          obtain rfl := kAct_open hK
          rw [Int.toNat_natCast, kAct_sz] at hcell
          have x0 : wr.cell? (ad.add (k * 7)) = some (.int .i64 kind) := hcell 0 _ rfl
          have x1 : wr.cell? ⟨(ad.add (k * 7)).block, (ad.add (k * 7)).off + 1, none⟩ = some (.string key) := cell_at (hcell 1 _ rfl) (by decide)
          have x2 : wr.cell? ⟨(ad.add (k * 7)).block, (ad.add (k * 7)).off + 2, none⟩ = some (.string sv) := cell_at (hcell 2 _ rfl) (by decide)
          have x3 : wr.cell? ⟨(ad.add (k * 7)).block, (ad.add (k * 7)).off + 3, none⟩ = some (.int .i64 a) := cell_at (hcell 3 _ rfl) (by decide)
          have x4 : wr.cell? ⟨(ad.add (k * 7)).block, (ad.add (k * 7)).off + 4, none⟩ = some (.int .i64 b) := cell_at (hcell 4 _ rfl) (by decide)
          have x5 : wr.cell? ⟨(ad.add (k * 7)).block, (ad.add (k * 7)).off + 5, none⟩ = some (.int .i64 c) := cell_at (hcell 5 _ rfl) (by decide)
          have x6 : wr.cell? ⟨(ad.add (k * 7)).block, (ad.add (k * 7)).off + 6, none⟩ = some (.bool mark) := cell_at (hcell 6 _ rfl) (by decide)
          clear hf hcell hK hx hkz hcl
          subst e1
          go_upto_region 11 with fail
          clear x0 x1 x2 x3 x4 x5 x6
          have hal : Below wr.heap.size wr (wr.alloc (.cells #[.int .i64 kind, .string key, .string sv, .int .i64 a, .int .i64 b, .int .i64 c, .bool mark] 42)) := (Below.refl _ wr).alloc (Nat.le_refl _) _
          have HSa := Aside0.mk (HS.out.below hal)
          have HBa := Aside0.mk (HB.out.trans (hal.mono HB.out.size))
          have HAB := Aside0.mk (heap_alloc_at wr (.cells #[.int .i64 kind, .string key, .string sv, .int .i64 a, .int .i64 b, .int .i64 c, .bool mark] 42))
          have HRW := Aside0.mk (show w.heap.size ≤ wr.heap.size from HB.out.size)
          clear hal HS HB
          obtain ⟨AB, hAB⟩ : ∃ AB, AB = wr.heap.size := ⟨_, rfl⟩
          rw [← hAB] at HAB HRW ⊢
          clear hAB
          generalize wr.alloc (.cells #[.int .i64 kind, .string key, .string sv, .int .i64 a, .int .i64 b, .int .i64 c, .bool mark] 42) = wq at HSa HBa HAB ⊢
          have q0 : wq.cell? ⟨AB, 0, none⟩ = some (.int .i64 kind) := (blk_cell HAB.out 0).trans rfl
          go_upto_if 63 with fail
          clear q0
          go_cut [] (fun wc => ∃ (fl' : Int) (ts' : List ThS) (K' : List Lk), Aside0 (StP wc w.heap.size C RB most fl' ts' K') ∧ Aside0 (Below w.heap.size w wc) ∧ Aside0 (wc.heap[AB]? = some (.cells #[.int .i64 kind, .string key, .string sv, .int .i64 a, .int .i64 b, .int .i64 c, .bool mark] 42 (0, 0))) ∧ Aside0 (0 ≤ fl' ∧ fl' ≤ (k : Int) + 1 ∧ ts'.length ≤ k + 1 ∧ K'.length ≤ k + 1))
          case first =>
            by_cases hk1 : kind = 1
            · subst hk1
              obtain ⟨vL, vK, r1, r2, r3⟩ := HSa.out.hr
              have HR1 := Aside0.mk r1
              have HR2 := Aside0.mk r2
              have HR3 := Aside0.mk r3
              have q3 : wq.cell? ⟨AB, 3, none⟩ = some (.int .i64 a) := (blk_cell HAB.out 3).trans rfl
              have q4 : wq.cell? ⟨AB, 4, none⟩ = some (.int .i64 b) := (blk_cell HAB.out 4).trans rfl
              have q5 : wq.cell? ⟨AB, 5, none⟩ = some (.int .i64 c) := (blk_cell HAB.out 5).trans rfl
              have q6 : wq.cell? ⟨AB, 6, none⟩ = some (.bool mark) := (blk_cell HAB.out 6).trans rfl
              have t0 : wq.cell? ⟨RB, 0, none⟩ = some (.int .i64 most) := (blk_cell r1 0).trans rfl
              have t1 : wq.cell? ⟨RB, 1, none⟩ = some (.int .i64 fl) := (blk_cell r1 1).trans rfl
              have t2 : wq.cell? ⟨RB, 2, none⟩ = some vL := (blk_cell r1 2).trans rfl
              have t3 : wq.cell? ⟨RB, 3, none⟩ = some vK := (blk_cell r1 3).trans rfl
              clear r1 r2 r3
              obtain ⟨K', ok, hKok⟩ : ∃ K' ok, (K', ok) = if (0 ≤ a ∧ a < ts.length) ∧ (0 ≤ c ∧ c < ts.length) ∧ 0 ≤ b ∧ b ≤ 256 then (K ++ [(⟨a, b, c, mark⟩ : Lk)], true) else (K, false) := ⟨_, _, rfl⟩
              have HJ := Aside0.mk (join_call (RB := RB) (AB := AB) (m := most) (fl := fl) a b c mark HBa.out HSa.out.hc HR2.out HR3.out ⟨_, HR1.out⟩ HAB.out (by have := HL.out; omega) K' ok hKok)
              have HKOK := Aside0.mk hKok
              clear hKok
              go_wp2_with fail
              refine HJ.out.mono ?_
              rintro e w2 ⟨vL2, vK2, rfl, g2, g3, gb, gc, gR, gA⟩
              obtain ⟨LA, Lc, eL⟩ := Kd.R_slice g2
              obtain ⟨KA, Kc, eK⟩ := Kd.R_slice g3
              generalize (ts.map toL).length = nL at eL
              generalize K'.length = nK at eK
              subst eL eK
              have G2 := Aside0.mk g2
              have G3 := Aside0.mk g3
              have GB := Aside0.mk gb
              have GC := Aside0.mk gc
              have GR := Aside0.mk (gR.trans HR1.out)
              have GA := Aside0.mk (gA.trans HAB.out)
              clear g2 g3 gb gc gR gA q3 q4 q5 q6 t0 t1 t2 t3 HJ
              go_upto_region 13 with fail
              have hal : Below w2.heap.size w2 (w2.alloc (.cells #[.int .i64 most, .int .i64 fl, .slice LA nL Lc, .slice KA nK Kc] 40)) := (Below.refl _ w2).alloc (Nat.le_refl _) _
              have HR' := Aside0.mk ((hal.block _ (blk_lt GR.out)).trans GR.out)
              have HA' := Aside0.mk ((hal.block _ (blk_lt GA.out)).trans GA.out)
              have HB' := Aside0.mk (GB.out.trans (hal.mono GB.out.size))
              have HC' := Aside0.mk (GC.out.below hal)
              have HG2 := Aside0.mk (Kd.R_below G2.out hal)
              have HG3 := Aside0.mk (Kd.R_below G3.out hal)
              have hbx := heap_alloc_at w2 (.cells #[.int .i64 most, .int .i64 fl, .slice LA nL Lc, .slice KA nK Kc] 40)
              clear G2 G3 GB GC GR GA hal
              generalize w2.alloc (.cells #[.int .i64 most, .int .i64 fl, .slice LA nL Lc, .slice KA nK Kc] 40) = w3 at HR' HA' HB' HC' HG2 HG3 hbx ⊢
              obtain ⟨SB, hSB⟩ : ∃ SB, SB = w2.heap.size := ⟨_, rfl⟩
              rw [← hSB] at hbx ⊢
              clear hSB
              have b0 : w3.cell? ⟨SB, 0, none⟩ = some (.int .i64 most) := (blk_cell hbx 0).trans rfl
              have b1 : w3.cell? ⟨SB, 1, none⟩ = some (.int .i64 fl) := (blk_cell hbx 1).trans rfl
              have b2 : w3.cell? ⟨SB, 2, none⟩ = some (.slice LA nL Lc) := (blk_cell hbx 2).trans rfl
              have b3 : w3.cell? ⟨SB, 3, none⟩ = some (.slice KA nK Kc) := (blk_cell hbx 3).trans rfl
              have t0 : w3.cell? ⟨RB, 0, none⟩ = some (.int .i64 most) := (blk_cell HR'.out 0).trans rfl
              have t1 : w3.cell? ⟨RB, 1, none⟩ = some (.int .i64 fl) := (blk_cell HR'.out 1).trans rfl
              have t2 : w3.cell? ⟨RB, 2, none⟩ = some vL := (blk_cell HR'.out 2).trans rfl
              have t3 : w3.cell? ⟨RB, 3, none⟩ = some vK := (blk_cell HR'.out 3).trans rfl
              have f0 : w3.frozen? ⟨RB, 0, none⟩ = false := blk_frozen HR'.out 0
              have f1 : w3.frozen? ⟨RB, 1, none⟩ = false := blk_frozen HR'.out 1
              have f2 : w3.frozen? ⟨RB, 2, none⟩ = false := blk_frozen HR'.out 2
              have f3 : w3.frozen? ⟨RB, 3, none⟩ = false := blk_frozen HR'.out 3
              clear hbx
              go_upto_region 14 with fail
              obtain ⟨s1, s2, s3, s4, s5, s6⟩ := store_ref (q0 := .int .i64 most) (q1 := .int .i64 fl) (q2 := .slice LA nL Lc) (q3 := .slice KA nK Kc) HR'.out HSa.out.hb HB'.out HC'.out HG2.out HG3.out HA'.out
              clear b0 b1 b2 b3 t0 t1 t2 t3 f0 f1 f2 f3 HR' HA' HB' HC' HG2 HG3
              generalize (((w3.setCell ⟨RB, 0, none⟩ (.int .i64 most)).setCell ⟨RB, 1, none⟩ (.int .i64 fl)).setCell ⟨RB, 2, none⟩ (.slice LA nL Lc)).setCell ⟨RB, 3, none⟩ (.slice KA nK Kc) = w4 at s1 s2 s3 s4 s5 s6 ⊢
              have HT1 := Aside0.mk s1
              have HT2 := Aside0.mk s2
              have HT3 := Aside0.mk s3
              have HT4 := Aside0.mk s4
              have HT5 := Aside0.mk s5
              have HT6 := Aside0.mk s6
              have q3 : w4.cell? ⟨AB, 3, none⟩ = some (.int .i64 a) := (blk_cell s6 3).trans rfl
              have q4 : w4.cell? ⟨AB, 4, none⟩ = some (.int .i64 b) := (blk_cell s6 4).trans rfl
              have q5 : w4.cell? ⟨AB, 5, none⟩ = some (.int .i64 c) := (blk_cell s6 5).trans rfl
              have q6 : w4.cell? ⟨AB, 6, none⟩ = some (.bool mark) := (blk_cell s6 6).trans rfl
              clear s1 s2 s3 s4 s5 s6
              by_cases hv : (0 ≤ a ∧ a < ts.length) ∧ (0 ≤ c ∧ c < ts.length) ∧ 0 ≤ b ∧ b ≤ 256
              · have hko := HKOK.out
                rw [if_pos hv] at hko
                injection hko with ek eo
                subst ek eo
                obtain ⟨i, rfl⟩ : ∃ i : Nat, a = i := ⟨a.toNat, by omega⟩
                obtain ⟨j, rfl⟩ : ∃ j : Nat, c = j := ⟨c.toNat, by omega⟩
                obtain ⟨bn, rfl⟩ : ∃ bn : Nat, b = bn := ⟨b.toNat, by omega⟩
                have hi : i < ts.length := by omega
                have hj : j < ts.length := by omega
                have hbn : bn ≤ 256 := by omega
                have HLK := Aside0.mk (linkS w4 w.heap.size C most fl ts HT3.out i j hi hj bn hbn mark)
                have HREL := Aside0.mk (HSa.out.rel.link i j bn hi hj hbn mark)
                have HLEN := Aside0.mk HSa.out.len
                have HTS := Aside0.mk (show (ts.set i ⟨ts[i].key, ts[i].s, updL ts[i].lk bn (j, mark, true)⟩).map toL = ts.map toL from map_set_toL ts i hi _)
                have hls : (ts.set i ⟨ts[i].key, ts[i].s, updL ts[i].lk bn (j, mark, true)⟩).length = ts.length := List.length_set
                generalize ts.set i ⟨ts[i].key, ts[i].s, updL ts[i].lk bn (j, mark, true)⟩ = ts' at HLK HREL HTS hls
                have HLS := Aside0.mk hls
                clear hv hi hj hbn hls HKOK
                go_wp2_with fail
                refine HLK.out.mono ?_
                rintro e w5 ⟨rfl, k1, k2, k3⟩
                have HK1 := Aside0.mk k1
                have HK2 := Aside0.mk k2
                have HK3 := Aside0.mk k3
                clear k1 k2 k3 q3 q4 q5 q6
                go_wp2
                go_meet
                case rel => exact ⟨fl, ts', K ++ [⟨(i : Int), (bn : Int), (j : Int), mark⟩], ⟨StP.cache HK1.out HK3.out HT1.out (HTS.out ▸ HT4.out) HT5.out HSa.out.hb HREL.out (by rw [HLS.out]; exact HLEN.out)⟩, ⟨HT2.out.trans HK2.out⟩, ⟨(HK3.out.2 AB _ _ HT6.out (by decide) (by decide) (by decide)).trans HT6.out⟩, ⟨by have := HL.out; have := HLS.out; simp; omega⟩⟩
              · have hko := HKOK.out
                rw [if_neg hv] at hko
                injection hko with ek eo
                subst ek eo
                have HLK := Aside0.mk (linkS_bad w4 w.heap.size C most fl ts HT3.out a b c mark hv)
                clear hv HKOK
                go_wp2_with fail
                refine HLK.out.mono ?_
                rintro e w5 ⟨rfl, rfl⟩
                clear q3 q4 q5 q6
                go_wp2
                go_meet
                case rel => exact ⟨fl, ts, K', ⟨StP.cache HT3.out (FrameS.below (Below.refl _ _)) HT1.out HT4.out HT5.out HSa.out.hb HSa.out.rel HSa.out.len⟩, HT2, HT6, ⟨by have := HL.out; omega⟩⟩
            · have hkb : (kind == 1) = false := by simpa using hk1
              clear hk1
              obtain ⟨vL, vK, r1, r2, r3⟩ := HSa.out.hr
              have HR1 := Aside0.mk r1
              have HR2 := Aside0.mk r2
              have HR3 := Aside0.mk r3
              have q1 : wq.cell? ⟨AB, 1, none⟩ = some (.string key) := (blk_cell HAB.out 1).trans rfl
              have q2 : wq.cell? ⟨AB, 2, none⟩ = some (.string sv) := (blk_cell HAB.out 2).trans rfl
              have t0 : wq.cell? ⟨RB, 0, none⟩ = some (.int .i64 most) := (blk_cell r1 0).trans rfl
              have t1 : wq.cell? ⟨RB, 1, none⟩ = some (.int .i64 fl) := (blk_cell r1 1).trans rfl
              have t2 : wq.cell? ⟨RB, 2, none⟩ = some vL := (blk_cell r1 2).trans rfl
              have t3 : wq.cell? ⟨RB, 3, none⟩ = some vK := (blk_cell r1 3).trans rfl
              clear r1 r2 r3
              obtain ⟨fl', ts', K', r, hE, hP, hrel, hlen', hf0, hf1, hn1, hn2⟩ := put_both (base := w.heap.size) (C := C) (fl := fl) HM.out.1 HM.out.2 HSa.out.rel HSa.out.len (by have := HL.out; omega) key sv HKEY.out
              have HJ := Aside0.mk (put_call (RB := RB) (AB := AB) key sv r HBa.out HSa.out.hc HR2.out HR3.out ⟨_, HR1.out⟩ HAB.out hE)
              have HP := Aside0.mk hP
              have HREL := Aside0.mk hrel
              have HNUM := Aside0.mk (And.intro hlen' (And.intro hf0 (And.intro hf1 (And.intro hn1 hn2))))
              clear hE hP hrel hlen' hf0 hf1 hn1 hn2
              go_wp2_with fail
              refine HJ.out.mono ?_
              rintro e w2 ⟨vL2, vK2, rfl, g2, g3, gb, gc, gR, gA⟩
              obtain ⟨LA, Lc, eL⟩ := Kd.R_slice g2
              obtain ⟨KA, Kc, eK⟩ := Kd.R_slice g3
              generalize (ts'.map toL).length = nL at eL
              generalize K'.length = nK at eK
              subst eL eK
              have G2 := Aside0.mk g2
              have G3 := Aside0.mk g3
              have GB := Aside0.mk gb
              have GC := Aside0.mk gc
              have GR := Aside0.mk (gR.trans HR1.out)
              have GA := Aside0.mk (gA.trans HAB.out)
              clear g2 g3 gb gc gR gA q1 q2 t0 t1 t2 t3 HJ
              go_upto_region 17 with fail
              have hal : Below w2.heap.size w2 (w2.alloc (.cells #[.int .i64 most, .int .i64 fl', .slice LA nL Lc, .slice KA nK Kc] 40)) := (Below.refl _ w2).alloc (Nat.le_refl _) _
              have HR' := Aside0.mk ((hal.block _ (blk_lt GR.out)).trans GR.out)
              have HA' := Aside0.mk ((hal.block _ (blk_lt GA.out)).trans GA.out)
              have HB' := Aside0.mk (GB.out.trans (hal.mono GB.out.size))
              have HC' := Aside0.mk (GC.out.below hal)
              have HG2 := Aside0.mk (Kd.R_below G2.out hal)
              have HG3 := Aside0.mk (Kd.R_below G3.out hal)
              have hbx := heap_alloc_at w2 (.cells #[.int .i64 most, .int .i64 fl', .slice LA nL Lc, .slice KA nK Kc] 40)
              clear G2 G3 GB GC GR GA hal
              generalize w2.alloc (.cells #[.int .i64 most, .int .i64 fl', .slice LA nL Lc, .slice KA nK Kc] 40) = w3 at HR' HA' HB' HC' HG2 HG3 hbx ⊢
              obtain ⟨SB, hSB⟩ : ∃ SB, SB = w2.heap.size := ⟨_, rfl⟩
              rw [← hSB] at hbx ⊢
              clear hSB
              have b0 : w3.cell? ⟨SB, 0, none⟩ = some (.int .i64 most) := (blk_cell hbx 0).trans rfl
              have b1 : w3.cell? ⟨SB, 1, none⟩ = some (.int .i64 fl') := (blk_cell hbx 1).trans rfl
              have b2 : w3.cell? ⟨SB, 2, none⟩ = some (.slice LA nL Lc) := (blk_cell hbx 2).trans rfl
              have b3 : w3.cell? ⟨SB, 3, none⟩ = some (.slice KA nK Kc) := (blk_cell hbx 3).trans rfl
              have t0 : w3.cell? ⟨RB, 0, none⟩ = some (.int .i64 most) := (blk_cell HR'.out 0).trans rfl
              have t1 : w3.cell? ⟨RB, 1, none⟩ = some (.int .i64 fl) := (blk_cell HR'.out 1).trans rfl
              have t2 : w3.cell? ⟨RB, 2, none⟩ = some vL := (blk_cell HR'.out 2).trans rfl
              have t3 : w3.cell? ⟨RB, 3, none⟩ = some vK := (blk_cell HR'.out 3).trans rfl
              have f0 : w3.frozen? ⟨RB, 0, none⟩ = false := blk_frozen HR'.out 0
              have f1 : w3.frozen? ⟨RB, 1, none⟩ = false := blk_frozen HR'.out 1
              have f2 : w3.frozen? ⟨RB, 2, none⟩ = false := blk_frozen HR'.out 2
              have f3 : w3.frozen? ⟨RB, 3, none⟩ = false := blk_frozen HR'.out 3
              clear hbx
              go_upto_region 18 with fail
              obtain ⟨s1, s2, s3, s4, s5, s6⟩ := store_ref (q0 := .int .i64 most) (q1 := .int .i64 fl') (q2 := .slice LA nL Lc) (q3 := .slice KA nK Kc) HR'.out HSa.out.hb HB'.out HC'.out HG2.out HG3.out HA'.out
              clear b0 b1 b2 b3 t0 t1 t2 t3 f0 f1 f2 f3 HR' HA' HB' HC' HG2 HG3
              generalize (((w3.setCell ⟨RB, 0, none⟩ (.int .i64 most)).setCell ⟨RB, 1, none⟩ (.int .i64 fl')).setCell ⟨RB, 2, none⟩ (.slice LA nL Lc)).setCell ⟨RB, 3, none⟩ (.slice KA nK Kc) = w4 at s1 s2 s3 s4 s5 s6 ⊢
              have HT1 := Aside0.mk s1
              have HT2 := Aside0.mk s2
              have HT3 := Aside0.mk s3
              have HT4 := Aside0.mk s4
              have HT5 := Aside0.mk s5
              have HT6 := Aside0.mk s6
              have q1 : w4.cell? ⟨AB, 1, none⟩ = some (.string key) := (blk_cell s6 1).trans rfl
              have q2 : w4.cell? ⟨AB, 2, none⟩ = some (.string sv) := (blk_cell s6 2).trans rfl
              clear s1 s2 s3 s4 s5 s6
              go_wp2_with fail
              refine (HP.out _ HT3.out HT2.out.size).mono ?_
              rintro e w5 ⟨rfl, k1, k2, k3⟩
              have HK1 := Aside0.mk k1
              have HK2 := Aside0.mk k2
              have HK3 := Aside0.mk k3
              clear k1 k2 k3 q1 q2
              go_wp2
              go_meet
              case rel => exact ⟨fl', ts', K', ⟨StP.cache HK1.out HK3.out HT1.out HT4.out HT5.out HSa.out.hb HREL.out HNUM.out.1⟩, ⟨HT2.out.trans HK2.out⟩, ⟨(HK3.out.2 AB _ _ HT6.out (by decide) (by decide) (by decide)).trans HT6.out⟩, ⟨by have := HL.out; have := HNUM.out; omega⟩⟩
          case rest =>
            obtain ⟨fl2, ts2, K2, HSc, HBc, HAc, HNc⟩ := hcut
            clear HSa HBa HAB HL fl ts K
            obtain ⟨vL, vK, r1, r2, r3⟩ := HSc.out.hr
            obtain ⟨LA, Lc, eL⟩ := Kd.R_slice r2
            obtain ⟨KA, Kc, eK⟩ := Kd.R_slice r3
            obtain ⟨nL, hnL⟩ : ∃ nL, nL = (ts2.map toL).length := ⟨_, rfl⟩
            obtain ⟨nK, hnK⟩ : ∃ nK, nK = K2.length := ⟨_, rfl⟩
            rw [← hnL] at eL
            rw [← hnK] at eK
            subst eL eK
            obtain ⟨F0, F1, T, M, okb, hv1, hv2, hv3⟩ := next_vals HSc.out.rel a b
            have HRN := Aside0.mk (rnext_call (m := most) (fl := fl2) a b hnL hnK (by have := HNc.out; omega) r2 r3 hv1)
            have HR1 := Aside0.mk r1
            have HR2 := Aside0.mk r2
            have HR3 := Aside0.mk r3
            have HNL := Aside0.mk hnL
            have HNK := Aside0.mk hnK
            have HV2 := Aside0.mk hv2
            have t0 : wc.cell? ⟨RB, 0, none⟩ = some (.int .i64 most) := (blk_cell r1 0).trans rfl
            have t1 : wc.cell? ⟨RB, 1, none⟩ = some (.int .i64 fl2) := (blk_cell r1 1).trans rfl
            have t2 : wc.cell? ⟨RB, 2, none⟩ = some (.slice LA nL Lc) := (blk_cell r1 2).trans rfl
            have t3 : wc.cell? ⟨RB, 3, none⟩ = some (.slice KA nK Kc) := (blk_cell r1 3).trans rfl
            have q3 : wc.cell? ⟨AB, 3, none⟩ = some (.int .i64 a) := (blk_cell HAc.out 3).trans rfl
            have q4 : wc.cell? ⟨AB, 4, none⟩ = some (.int .i64 b) := (blk_cell HAc.out 4).trans rfl
            clear r1 r2 r3 hnL hnK hv1 hv2
            go_wp2_with fail
            refine HRN.out.mono ?_
            rintro e w2 ⟨rfl, hb2⟩
            clear t0 t1 t2 t3 q3 q4 HRN
            have hal : Below w2.heap.size w2 (w2.alloc (.cells #[.int .i64 F0, .int .i64 F1, .int .i64 T, .bool M] 46)) := (Below.refl _ w2).alloc (Nat.le_refl _) _
            have hb3 := hb2.trans (hal.mono hb2.size)
            go_upto_region 21 with fail
            have HWB := Aside0.mk (heap_alloc_at w2 (.cells #[.int .i64 F0, .int .i64 F1, .int .i64 T, .bool M] 46))
            generalize w2.alloc (.cells #[.int .i64 F0, .int .i64 F1, .int .i64 T, .bool M] 46) = w3 at hb3 HWB ⊢
            have HS3 := Aside0.mk (HSc.out.below hb3)
            have HB3 := Aside0.mk (HBc.out.trans (hb3.mono HBc.out.size))
            have HA3 := Aside0.mk ((hb3.block _ (blk_lt HAc.out)).trans HAc.out)
            have HR13 := Aside0.mk ((hb3.block _ (blk_lt HR1.out)).trans HR1.out)
            have HR23 := Aside0.mk (Kd.R_below HR2.out hb3)
            have HR33 := Aside0.mk (Kd.R_below HR3.out hb3)
            obtain ⟨WB, hWB⟩ : ∃ WB, WB = w2.heap.size := ⟨_, rfl⟩
            rw [← hWB] at HWB ⊢
            clear hWB hal hb2 hb3 HSc HBc HAc HR1 HR2 HR3
            have q3 : w3.cell? ⟨AB, 3, none⟩ = some (.int .i64 a) := (blk_cell HA3.out 3).trans rfl
            have q4 : w3.cell? ⟨AB, 4, none⟩ = some (.int .i64 b) := (blk_cell HA3.out 4).trans rfl
            go_wp2_with fail
            refine (next_both HS3.out.hc HS3.out.rel a b).mono ?_
            rintro e w4 ⟨rfl, hb4⟩
            rw [HV2.out]
            have HS4 := Aside0.mk (HS3.out.below hb4)
            have HB4 := Aside0.mk (HB3.out.trans (hb4.mono HB3.out.size))
            have HA4 := Aside0.mk ((hb4.block _ (blk_lt HA3.out)).trans HA3.out)
            have HR14 := Aside0.mk ((hb4.block _ (blk_lt HR13.out)).trans HR13.out)
            have HR24 := Aside0.mk (Kd.R_below HR23.out hb4)
            have HR34 := Aside0.mk (Kd.R_below HR33.out hb4)
            have HW4 := Aside0.mk ((hb4.block _ (blk_lt HWB.out)).trans HWB.out)
            clear hb4 q3 q4 HS3 HB3 HA3 HR13 HR23 HR33 HWB
            go_wp2_with fail
            have hdw := (Below.refl w4.heap.size w4).drew
            have HSd := Aside0.mk (HS4.out.below hdw)
            have HBd := Aside0.mk (HB4.out.trans (hdw.mono HB4.out.size))
            have HWd := Aside0.mk ((hdw.block _ (blk_lt HW4.out)).trans HW4.out)
            have HRd := Aside0.mk ((hdw.block _ (blk_lt HR14.out)).trans HR14.out)
            have HAd := Aside0.mk ((hdw.block _ (blk_lt HA4.out)).trans HA4.out)
            have HR2d := Aside0.mk (Kd.R_below HR24.out hdw)
            have HR3d := Aside0.mk (Kd.R_below HR34.out hdw)
            have HLEN := Aside0.mk (fun (W : World) (h : CacheS W w.heap.size C most fl2 ts2) => (show ((ts2.length : Nat) : Int) = (nL : Int) from by rw [HNL.out, List.length_map]) ▸ lenS W _ _ _ _ _ h)
            have HFLU := Aside0.mk (fun (W : World) (h : CacheS W w.heap.size C most fl2 ts2) => flushesS W _ _ _ _ _ h)
            have HFND := Aside0.mk (fun (W : World) (h : CacheS W w.heap.size C most fl2 ts2) => findS W _ _ _ _ _ h key HKEY.out _ (stands_find key ts2))
            have HRFN := Aside0.mk (fun (W : World) h2 h3 => rfind_call (W := W) (base := w.heap.size) (m := most) (fl := fl2) (ts := ts2) (K := K2) (LA := LA) (KA := KA) (nL := nL) (nK := nK) (Lc := Lc) (Kc := Kc) key HNL.out HNK.out (by have := HNc.out; omega) h2 h3)
            generalize findG key 0 ts2 = fnd at HFND HRFN
            clear hdw HS4 HB4 HW4 HR14 HA4 HR24 HR34
            go_region_held3 (fun W => W.cell? ⟨WB, 0, none⟩ = some (.int .i64 F0) ∧ W.cell? ⟨WB, 2, none⟩ = some (.int .i64 T) ∧ W.cell? ⟨WB, 3, none⟩ = some (.bool M) ∧ W.cell? ⟨RB, 0, none⟩ = some (.int .i64 most) ∧ W.cell? ⟨RB, 1, none⟩ = some (.int .i64 fl2) ∧ W.cell? ⟨RB, 2, none⟩ = some (.slice LA nL Lc) ∧ W.cell? ⟨RB, 3, none⟩ = some (.slice KA nK Kc) ∧ W.cell? ⟨AB, 1, none⟩ = some (.string key)) (first | exact keep8 HWd.out HRd.out HAd.out | exact keep8 HW6.out HR6.out HA6.out | exact keep8 HW7.out HR7.out HA7.out) (first | ((go_at_call 19; refine (HLEN.out _ HSd.out.hc).mono ?_; rintro e w5 ⟨rfl, rfl⟩)) | ((go_at_call 20; refine (HFLU.out _ HSd.out.hc).mono ?_; rintro e w5 ⟨rfl, rfl⟩)) | ((go_at_call 21; refine (HFND.out _ HSd.out.hc).mono ?_; rintro e w6 ⟨rfl, hb6⟩; have HS6 := Aside0.mk (HSd.out.below hb6); have HB6 := Aside0.mk (HBd.out.trans (hb6.mono HBd.out.size)); have HW6 := Aside0.mk ((hb6.block _ (blk_lt HWd.out)).trans HWd.out); have HR6 := Aside0.mk ((hb6.block _ (blk_lt HRd.out)).trans HRd.out); have HA6 := Aside0.mk ((hb6.block _ (blk_lt HAd.out)).trans HAd.out); have HR26 := Aside0.mk (Kd.R_below HR2d.out hb6); have HR36 := Aside0.mk (Kd.R_below HR3d.out hb6); clear hb6)) | ((go_at_call 22; refine (HRFN.out _ HR26.out HR36.out).mono ?_; rintro e w7 ⟨rfl, hb7⟩; have HS7 := Aside0.mk (HS6.out.below hb7); have HB7 := Aside0.mk (HB6.out.trans (hb7.mono HB6.out.size)); have HW7 := Aside0.mk ((hb7.block _ (blk_lt HW6.out)).trans HW6.out); have HR7 := Aside0.mk ((hb7.block _ (blk_lt HR6.out)).trans HR6.out); have HA7 := Aside0.mk ((hb7.block _ (blk_lt HA6.out)).trans HA6.out); have HR27 := Aside0.mk (Kd.R_below HR26.out hb7); have HR37 := Aside0.mk (Kd.R_below HR36.out hb7); clear hb7)))
            have q3 : w7.cell? ⟨AB, 3, none⟩ = some (.int .i64 a) := (blk_cell HA7.out 3).trans rfl
            by_cases hv : 0 ≤ a ∧ a < ts2.length
            · obtain ⟨i, rfl⟩ : ∃ i : Nat, a = i := ⟨a.toNat, by omega⟩
              have hi : i < ts2.length := by omega
              have hiN : i < nL := by rw [HNL.out, List.length_map]; exact hi
              have HG := Aside0.mk (getS w7 w.heap.size C most fl2 ts2 HS7.out.hc i hi _ rfl)
              obtain ⟨adL, csL, eA, hclL, hKL, hcellL⟩ := ReadsRow.get_ (Kd.R_reads' HR27.out).2.2 z59 (i : Int) (by omega) (by rw [List.length_map]; omega)
              have hx : (ts2.map toL).getD ((i : Int)).toNat z59 = toL ts2[i] := by
                rw [Int.toNat_natCast, List.getD_eq_getElem?_getD, List.getElem?_map, List.getElem?_eq_getElem hi]
                rfl
              rw [hx] at hKL
              obtain rfl := k59_open hKL
              rw [Int.toNat_natCast, show (k59).sz = 2 from rfl] at hcellL
              have HL1 := Aside0.mk (show w7.cell? ⟨(adL.add (i * 2)).block, (adL.add (i * 2)).off + 1, none⟩ = some (.string ts2[i].s) from cell_at (hcellL 1 _ rfl) (by decide))
              generalize ts2[i].s = sx at HG HL1
              clear hx hKL hclL hcellL hv
              subst eA
              go_wp2_with fail
              refine HG.out.mono ?_
              rintro e w8 ⟨q, rfl, hq, hqw, hb8⟩
              have HB8 := Aside0.mk hb8
              have hA8 := (hb8.block _ (blk_lt HA7.out)).trans HA7.out
              have hR8 := (hb8.block _ (blk_lt HR7.out)).trans HR7.out
              have l1 : w8.cell? ⟨(adL.add (i * 2)).block, (adL.add (i * 2)).off + 1, none⟩ = some (.string sx) := (hb8.cell (p := ⟨(adL.add (i * 2)).block, (adL.add (i * 2)).off + 1, none⟩) (World.block_lt_of_cell? _ _ HL1.out)).trans HL1.out
              have y3 : w8.cell? ⟨AB, 3, none⟩ = some (.int .i64 i) := (blk_cell hA8 3).trans rfl
              have y2 : w8.cell? ⟨RB, 2, none⟩ = some (.slice (some adL) nL Lc) := (blk_cell hR8 2).trans rfl
              have yq : w8.cell? ⟨q, 0, none⟩ = some (.string sx) := (blk_cell hq 0).trans rfl
              have fq : w8.frozen? ⟨q, 0, none⟩ = false := blk_frozen hq 0
              have HNc' := HNc
              clear hb8 hq hA8 hR8 q3 HA7 HR7 HW7 HR27 HR37 HG HL1
              go_wp2_with fail
              go_quiet (fail)
              have HB9 := Aside0.mk (pw_below_drewN HB8.out nq)
              have yq9 : (w8.drewN nq).cell? ⟨q, 0, none⟩ = some (.string sx) := yq
              have fq9 : (w8.drewN nq).frozen? ⟨q, 0, none⟩ = false := fq
              clear yq fq y2 y3 l1 HB8
              generalize w8.drewN nq = w9 at *
              go_wp2_with fail
              go_roundg (n - (k + 1))
              case measure => omega
              case rel => exact ⟨k + 1, fl2, ts2, K2, by omega, by omega, by omega, rfl, ⟨HS7.out.below (HB9.out.setCell (p := ⟨q, 0, none⟩) hqw _)⟩, ⟨(HB7.out.trans (HB9.out.mono HB7.out.size)).setCell (p := ⟨q, 0, none⟩) (Nat.le_trans HB7.out.size hqw) _⟩, ⟨by have := HNc'.out; omega⟩⟩
            · have HG := Aside0.mk (getS_none w7 w.heap.size C most fl2 ts2 HS7.out.hc a hv)
              go_wp2_with fail
              refine HG.out.mono ?_
              rintro e w8 ⟨rfl, rfl⟩
              have y2 : w8.cell? ⟨RB, 2, none⟩ = some (.slice LA nL Lc) := (blk_cell HR7.out 2).trans rfl
              have HVN := Aside0.mk (show a < 0 ∨ (nL : Int) ≤ a from by have := HNL.out; rw [List.length_map] at this; omega)
              clear HG hv
              by_cases ha0 : a < 0
              · have ha1 : decide (a < 0) = true := decide_eq_true ha0
                go_wp2_with fail
                go_roundg (n - (k + 1))
                case measure => omega
                case rel => exact ⟨k + 1, fl2, ts2, K2, by omega, by omega, by omega, rfl, HS7, HB7, ⟨by have := HNc.out; omega⟩⟩
              · have ha1 : decide (a < 0) = false := decide_eq_false ha0
                have ha2 : decide ((nL : Int) ≤ a) = true := decide_eq_true (by have := HVN.out; omega)
                go_wp2_with fail
                go_roundg (n - (k + 1))
                case measure => omega
                case rel => exact ⟨k + 1, fl2, ts2, K2, by omega, by omega, by omega, rfl, HS7, HB7, ⟨by have := HNc.out; omega⟩⟩
        · have hd1 : decide ((k : Int) < 100) = false := decide_eq_false (by omega)
          go_wp2_with fail
          refine (works_any _).mono ?_
          rintro e w2 ⟨rfl, hb2⟩
          have HB2 := Aside0.mk (HB.out.trans (hb2.mono HB.out.size))
          clear hb2
          go_wp2_with fail
          refine (burinbook_Below.calls 0 1 0 _ (by decide)).mono ?_
          rintro e w3 ⟨rfl, hd3⟩
          have HB3 := Aside0.mk (HB2.out.trans (hd3.below.mono HB2.out.size))
          clear hd3
          go_wp2
          go_ret
          exact ⟨rfl, HB3.out⟩
      · have hd1 : decide ((k : Int) < n) = false := decide_eq_false (by omega)
        go_wp2_with fail
        refine (works_any _).mono ?_
        rintro e w2 ⟨rfl, hb2⟩
        have HB2 := Aside0.mk (HB.out.trans (hb2.mono HB.out.size))
        clear hb2
        go_wp2_with fail
        refine (burinbook_Below.calls 0 1 0 _ (by decide)).mono ?_
        rintro e w3 ⟨rfl, hd3⟩
        have HB3 := Aside0.mk (HB2.out.trans (hd3.below.mono HB2.out.size))
        clear hd3
        go_wp2
        go_ret
        exact ⟨rfl, HB3.out⟩
end Go.Proofs.Ytcijpncjdccbbaa.Pure
