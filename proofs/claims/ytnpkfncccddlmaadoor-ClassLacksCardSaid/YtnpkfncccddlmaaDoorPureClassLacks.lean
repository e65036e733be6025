/- ClassLacks: what a name lacks; no condition. -/
import Derived.Test.YtnpkfncccddlmaaDoorHClassLacksx7
namespace Go.Proofs.YtnpkfncccddlmaaDoor.Pure
open Go.RowKit Go.Proofs.YtnpkfncccddlmaaDoor.HClassLacks Go.Proofs.YtnpkfncccddlmaaDoorW.PrintWords Go.Proofs.YtnpkfncccddlmaaDoorW.PrintLast
open Go.Proofs.YtnpkfncccddlmaaDoorX

theorem ev_step {α : Type} {g : Nat → Option α} {r : α} (f : Nat → Option α) (h : ∀ k, g (k + 1) = f k) (k : Ev f r) : Ev g r := Ev.step h k
theorem ev_from {α : Type} {g : Nat → Option α} {r : α} (K : Nat) (h : ∀ k, K ≤ k → g k = some r) : Ev g r := ⟨K, h⟩
theorem not_l0 (s : List (Int × Int)) (hs : ∀ x ∈ s, 0 ≤ x.1 ∧ x.1 ≤ x.2 ∧ x.2 ≤ 1114111) (hn : s.length ≤ 900000) (d : Nat) : ∀ (i : Nat) (p : List (Int × Int)) (f : Int), i ≤ s.length → s.length - i = d → p.length + d ≤ 900000 → 0 ≤ f → f ≤ 1114112 →
    Ev (fun k => ranges_Not.l0 k (p.map toRg) f (s.map toRg) (s.length : Int) i) ((p ++ notG f (s.drop i)).map toRg) := by
  induction d with
  | zero =>
    intro i p f hi hd hp h0 h1
    have e : i = s.length := by omega
    subst e
    refine Ev.step (fun k => ?_) (Ev.now _)
    simp only [ranges_Not.l0]
    rw [if_neg (by omega), List.drop_of_length_le (Nat.le_refl _)]
    by_cases hf : f ≤ 1114111
    · rw [if_pos hf, if_pos (by simp; omega), notG, if_pos hf]
      simp [toRg]
    · rw [if_neg hf, notG, if_neg hf, List.append_nil]
  | succ d ih =>
    intro i p f hi hd hp h0 h1
    have hlt : i < s.length := by omega
    have hx := hs _ (List.getElem_mem hlt)
    have hstep : ∀ k, ranges_Not.l0 (k + 1) (p.map toRg) f (s.map toRg) (s.length : Int) i = if s[i].1 > f then ranges_Not.l0 k ((p ++ [(f, s[i].1 - 1)]).map toRg) (s[i].2 + 1) (s.map toRg) (s.length : Int) ((i + 1 : Nat) : Int) else ranges_Not.l0 k (p.map toRg) (s[i].2 + 1) (s.map toRg) (s.length : Int) ((i + 1 : Nat) : Int) := by
      intro k
      simp only [ranges_Not.l0]
      rw [if_pos (by omega), if_pos (by omega), if_pos (by simp; omega), rd_rg s i hlt]
      rw [show (toRg s[i]).f0 = s[i].1 from rfl, show (toRg s[i]).f1 = s[i].2 from rfl, wrap_rg (x := s[i].1 - 1) (by omega) (by omega), wrap_rg (x := s[i].2 + 1) (by omega) (by omega), wrap_rg (x := (i : Int) + 1) (by omega) (by omega), show (i : Int) + 1 = ((i + 1 : Nat) : Int) by omega]
      rw [if_pos (c := (List.map toRg p).length < 8796093022208) (by simp; omega)]
      simp [toRg]
    rw [List.drop_eq_getElem_cons hlt, notG]
    by_cases h : s[i].1 > f
    · rw [if_pos h]
      have := ih (i + 1) (p ++ [(f, s[i].1 - 1)]) (s[i].2 + 1) (by omega) (by omega) (by simp; omega) (by omega) (by omega)
      rw [List.append_assoc] at this
      exact Ev.step (fun k => by rw [hstep k, if_pos h]) this
    · rw [if_neg h]
      exact Ev.step (fun k => by rw [hstep k, if_neg h]) (ih (i + 1) p (s[i].2 + 1) (by omega) (by omega) (by omega) (by omega) (by omega))
theorem not_ev (l : List S42) (hn : l.length ≤ 900000) : Ev (fun k => ranges_Not.f k l) ((notL (l.map ofRg)).map toRg) := by
  have hl := normL_len (l.map ofRg)
  rw [List.length_map] at hl
  have hN := normL_nrm (l.map ofRg)
  have := not_l0 (normL (l.map ofRg)) (fun x hx => hN.inr x hx) (by omega) _ 0 [] 0 (Nat.zero_le _) rfl (by simp; omega) (by omega) (by omega)
  unfold ranges_Not.f
  refine Ev.bind (norm_ev l hn) ?_
  simpa [notL] using this
def chk (p : Int) : List (Int × Int) → Int
  | [] => 0
  | x :: t => if x.1 < 0 ∨ x.1 > 1114111 ∨ x.2 < 0 ∨ x.2 > 1114111 then 1 else if x.1 > x.2 then 4 else if x.1 ≤ p + 1 then 4 else chk x.2 t
theorem chk_nrm : ∀ {l : List (Int × Int)} {p : Int}, Nrm l → (∀ x ∈ l, p + 1 < x.1) → chk p l = 0
  | [], _, _, _ => rfl
  | x :: t, p, h, hp => by
    have hx := h.inr x (by simp)
    have h1 := hp x (by simp)
    unfold chk
    rw [if_neg (by omega), if_neg (by omega), if_neg (by omega)]
    exact chk_nrm h.tail (fun y hy => (List.pairwise_cons.1 h.apart).1 y hy)
theorem nrm_chk : ∀ {l : List (Int × Int)} {p : Int}, chk p l = 0 → Nrm l ∧ ∀ x ∈ l, p + 1 < x.1
  | [], _, _ => ⟨Nrm.nil, fun x hx => by cases hx⟩
  | x :: t, p, h => by
    unfold chk at h
    split at h
    · omega
    · split at h
      · omega
      · split at h
        · omega
        · obtain ⟨h1, h2⟩ := nrm_chk h
          refine ⟨⟨fun y hy => ?_, List.pairwise_cons.2 ⟨h2, h1.apart⟩⟩, fun y hy => ?_⟩
          · rcases List.mem_cons.1 hy with rfl | hy
            · omega
            · exact h1.inr y hy
          · rcases List.mem_cons.1 hy with rfl | hy
            · omega
            · have := h2 y hy
              omega
theorem check_l0 (s : List (Int × Int)) (hn : s.length ≤ 900000) (d : Nat) : ∀ (i : Nat) (p : Int), i ≤ s.length → s.length - i = d → -2 ≤ p → p ≤ 1114111 →
    Ev (fun k => ranges_Check.l0 k p (s.map toRg) (s.length : Int) i) (chk p (s.drop i)) := by
  induction d with
  | zero =>
    intro i p hi hd h0 h1
    have e : i = s.length := by omega
    subst e
    refine Ev.step (fun k => ?_) (Ev.now _)
    simp only [ranges_Check.l0]
    rw [if_neg (by omega), List.drop_of_length_le (Nat.le_refl _)]
    rfl
  | succ d ih =>
    intro i p hi hd h0 h1
    have hlt : i < s.length := by omega
    rw [List.drop_eq_getElem_cons hlt, chk]
    have hd : ∀ k, ranges_Check.l0 (k + 1) p (s.map toRg) (s.length : Int) i = ranges_Check.j1 k p (s.map toRg) (s.length : Int) i (decide (s[i].1 < 0 ∨ s[i].1 > 1114111 ∨ s[i].2 < 0 ∨ s[i].2 > 1114111)) s[i].1 s[i].2 := by
      intro k
      simp only [ranges_Check.l0]
      rw [if_pos (by omega), if_pos (by omega), if_pos (by simp; omega), rd_rg s i hlt]
      rw [show (toRg s[i]).f0 = s[i].1 from rfl, show (toRg s[i]).f1 = s[i].2 from rfl]
      by_cases x0 : s[i].1 < 0
      · rw [if_pos x0, decide_eq_true (by omega)]
      · rw [if_neg x0]
        by_cases x1 : s[i].1 > 1114111
        · rw [if_pos x1, decide_eq_true (by omega)]
        · rw [if_neg x1]
          by_cases x2 : s[i].2 < 0
          · rw [if_pos x2, decide_eq_true (by omega)]
          · rw [if_neg x2]
            by_cases x3 : s[i].2 > 1114111
            · rw [decide_eq_true x3, decide_eq_true (by omega)]
            · rw [decide_eq_false x3, decide_eq_false (by omega)]
    by_cases c1 : s[i].1 < 0 ∨ s[i].1 > 1114111 ∨ s[i].2 < 0 ∨ s[i].2 > 1114111
    · rw [if_pos c1]
      refine Ev.step hd (Ev.step (fun k => ?_) (Ev.now _))
      simp only [ranges_Check.j1]
      rw [decide_eq_true c1, if_pos rfl]
    · rw [if_neg c1]
      by_cases c2 : s[i].1 > s[i].2
      · rw [if_pos c2]
        refine Ev.step hd (Ev.step (fun k => ?_) (Ev.now _))
        simp only [ranges_Check.j1]
        rw [decide_eq_false c1, if_neg (by simp), if_pos c2]
      · rw [if_neg c2]
        by_cases c3 : s[i].1 ≤ p + 1
        · rw [if_pos c3]
          refine Ev.step hd (Ev.step (fun k => ?_) (Ev.now _))
          simp only [ranges_Check.j1]
          rw [decide_eq_false c1, if_neg (by simp), if_neg c2, wrap_rg (x := p + 1) (by omega) (by omega), if_pos c3]
        · rw [if_neg c3]
          refine Ev.step hd (Ev.step (fun k => ?_) (ih (i + 1) s[i].2 (by omega) (by omega) (by omega) (by omega)))
          simp only [ranges_Check.j1]
          rw [decide_eq_false c1, if_neg (by simp), if_neg c2, wrap_rg (x := p + 1) (by omega) (by omega), if_neg c3, wrap_rg (x := (i : Int) + 1) (by omega) (by omega), show (i : Int) + 1 = ((i + 1 : Nat) : Int) by omega]
theorem check_ev (s : List (Int × Int)) (hn : s.length ≤ 900000) : Ev (fun k => ranges_Check.f k (s.map toRg)) (chk (-2) s) := by
  have := check_l0 s hn _ 0 (-2) (Nat.zero_le _) rfl (by omega) (by omega)
  unfold ranges_Check.f
  simpa using this
theorem same_l0 (s : List S42) (hn : s.length ≤ 2000000) (d : Nat) : ∀ i : Nat, i ≤ s.length → s.length - i = d → Ev (fun k => burinbook_SameRanges.l0 k s s true i) true := by
  induction d with
  | zero =>
    intro i hi hd
    refine Ev.step (fun k => ?_) (Ev.now _)
    simp only [burinbook_SameRanges.l0]
    rw [if_pos trivial, if_neg (by omega)]
  | succ d ih =>
    intro i hi hd
    refine Ev.step (fun k => ?_) (ih (i + 1) (by omega) (by omega))
    simp only [burinbook_SameRanges.l0]
    rw [if_pos trivial, if_pos (by omega), if_pos (by omega), if_pos (by omega), wrap_rg (x := (i : Int) + 1) (by omega) (by omega), show (i : Int) + 1 = ((i + 1 : Nat) : Int) by omega]
    simp
theorem same_ev (s : List S42) (hn : s.length ≤ 2000000) : Ev (fun k => burinbook_SameRanges.f k s s) true := by
  have := same_l0 s hn _ 0 (Nat.zero_le _) rfl
  unfold burinbook_SameRanges.f
  simpa using this
/-- Of a text's first byte. -/
theorem ex01 (c : UInt8) (t : List UInt8) : ((ByteArray.mk ⟨c :: t⟩).extract 0 1).toList = [c] := by
  rw [ByteArray.toList_eq, ByteArray.data_extract]
  simp
theorem ex1n (c : UInt8) (t : List UInt8) : (ByteArray.mk ⟨c :: t⟩).extract 1 (t.length + 1) = ⟨⟨t⟩⟩ := by
  apply ByteArray.ext
  rw [ByteArray.data_extract]
  simp
theorem sz_cons (c : UInt8) (t : List UInt8) : (ByteArray.mk ⟨c :: t⟩).size = t.length + 1 := by
  simp [ByteArray.size]
theorem caret_app (s : ByteArray) : (⟨#[94]⟩ : ByteArray) ++ s = ⟨⟨94 :: s.data.toList⟩⟩ := by
  apply ByteArray.ext
  rw [ByteArray.data_append]
  apply Array.ext'
  simp
theorem prefix_cons (c : UInt8) (t : List UInt8) : stringslite_HasPrefix.f ⟨⟨c :: t⟩⟩ (⟨#[94]⟩ : ByteArray) = some (c == 94) := by
  unfold stringslite_HasPrefix.f
  have h1 : (⟨#[94]⟩ : ByteArray).size = 1 := rfl
  have h2 : (⟨#[94]⟩ : ByteArray).toList = [94] := by rw [ByteArray.toList_eq]
  rw [sz_cons, h1, if_pos (by omega), if_pos (by omega), if_pos (by omega), h2, show (((1 : Nat) : Int)).toNat = 1 from rfl, ex01]
  simp
theorem cut_cons (c : UInt8) (t : List UInt8) : strings_CutPrefix.f ⟨⟨c :: t⟩⟩ (⟨#[94]⟩ : ByteArray) = some (if c = 94 then ((⟨⟨t⟩⟩ : ByteArray), true) else (⟨⟨c :: t⟩⟩, false)) := by
  unfold strings_CutPrefix.f stringslite_CutPrefix.f
  rw [prefix_cons, Option.bind_some]
  have h1 : (⟨#[94]⟩ : ByteArray).size = 1 := rfl
  by_cases h : c = 94
  · rw [if_pos (by simpa using h), h1, if_pos (by omega), sz_cons, if_pos (by omega), show (((1 : Nat) : Int)).toNat = 1 from rfl, ex1n, if_pos h]
    rfl
  · rw [if_neg (by simpa using h), if_neg h]
    rfl
theorem cut_nil : strings_CutPrefix.f ⟨⟨[]⟩⟩ (⟨#[94]⟩ : ByteArray) = some ((⟨⟨[]⟩⟩ : ByteArray), false) := by
  unfold strings_CutPrefix.f stringslite_CutPrefix.f stringslite_HasPrefix.f
  rw [if_neg (by decide)]
  rfl
/-- Whether a text begins with the sign for what a set lacks. -/
def caret (s : ByteArray) : Bool := s.data.toList.head? == some 94
theorem cut_plain {s : ByteArray} (h : caret s = false) : strings_CutPrefix.f s (⟨#[94]⟩ : ByteArray) = some (s, false) := by
  obtain ⟨⟨l⟩⟩ := s
  cases l with
  | nil => exact cut_nil
  | cons c t =>
    rw [cut_cons, if_neg]
    intro e
    subst e
    simp [caret] at h
theorem cut_caret (s : ByteArray) : strings_CutPrefix.f ((⟨#[94]⟩ : ByteArray) ++ s) (⟨#[94]⟩ : ByteArray) = some (s, true) := by
  rw [caret_app, cut_cons, if_pos rfl]
theorem splitB_small (sep : ByteArray) (k : Nat) : ∀ s : ByteArray, ∀ x ∈ Lib.splitB sep 0 k s, x.size ≤ s.size := by
  induction k with
  | zero =>
    intro s x hx
    obtain rfl : x = s := by simpa [Lib.splitB] using hx
    exact Nat.le_refl _
  | succ k ih =>
    intro s x hx
    unfold Lib.splitB at hx
    split at hx
    · obtain rfl : x = s := by simpa using hx
      exact Nat.le_refl _
    · rcases List.mem_cons.1 hx with rfl | hx
      · rw [ByteArray.size_extract]; omega
      · have := ih _ x hx
        rw [ByteArray.size_extract] at this
        omega
theorem split_small {s : ByteArray} (h : s.size ≤ 990) : SmallPieces s ∧ splitN s ≤ 1000 := by
  have hle := Lib.countB_le ⟨#[32]⟩ (by decide) s.size s (Nat.le_refl _)
  refine ⟨⟨by omega, fun x hx => ?_⟩, by unfold splitN; omega⟩
  have := splitB_small ⟨#[32]⟩ _ s x hx
  omega
/-- A table of names: short ones, of which none begins with that sign. -/
def tabOk (l : List S56) : Bool := decide (0 < l.length) && l.all fun x => decide (x.f1.size ≤ 990) && !caret x.f0
theorem tab_good {l : List S56} (h : tabOk l = true) : goodNm (l.map ofNm) = true ∧ ∀ x ∈ l.map ofNm, caret x.1 = false := by
  unfold tabOk at h
  simp only [Bool.and_eq_true, decide_eq_true_eq, List.all_eq_true, Bool.not_eq_true'] at h
  refine ⟨?_, fun x hx => ?_⟩
  · unfold goodNm
    simp only [Bool.and_eq_true, decide_eq_true_eq, List.all_eq_true, List.length_map]
    refine ⟨h.1, fun x hx => ?_⟩
    obtain ⟨y, hy, rfl⟩ := List.mem_map.1 hx
    obtain ⟨h1, h2⟩ := split_small (s := (ofNm y).2) (h.2 y hy).1
    exact ⟨⟨h1.1, h1.2⟩, h2⟩
  · obtain ⟨y, hy, rfl⟩ := List.mem_map.1 hx
    exact (h.2 y hy).2
theorem find_ok {l : List S56} (h : tabOk l = true) (s : ByteArray) : class_find.f l s = some ((findV normL (l.map ofNm) s).1.map toRg, (findV normL (l.map ofNm) s).2) := by
  unfold class_find.f
  rw [if_pos (tab_good h).1]
theorem find_fact {l : List S56} (h : tabOk l = true) (s : ByteArray) : Nrm (findV normL (l.map ofNm) s).1 ∧ (findV normL (l.map ofNm) s).1.length ≤ 900000 ∧ ((findV normL (l.map ofNm) s).2 = 0 ∨ findV normL (l.map ofNm) s = ([], 70)) := by
  obtain ⟨_, hg⟩ := good_nm (tab_good h).1
  unfold findV
  cases hf : (l.map ofNm).find? (isNm s) with
  | none => exact ⟨Nrm.nil, by simp, Or.inr rfl⟩
  | some x => exact ⟨normL_nrm _, Nat.le_trans (normL_len _) (hg x (List.mem_of_find?_eq_some hf)).2.2, Or.inl rfl⟩
theorem find_caret {l : List S56} (h : tabOk l = true) {s : ByteArray} (hs : caret s = true) : findV normL (l.map ofNm) s = ([], 70) := by
  unfold findV
  rw [List.find?_eq_none.2]
  intro x hx e
  have := (tab_good h).2 x hx
  unfold isNm at e
  rw [beq_iff_eq, ByteArray.toList_eq, ByteArray.toList_eq] at e
  unfold caret at this hs
  rw [e, hs] at this
  cases this
/-- What a name stands for with the sign ahead. -/
def lackV (l : List S56) (s : ByteArray) : List (Int × Int) × Int := if (findV normL (l.map ofNm) s).2 = 0 then (notL (findV normL (l.map ofNm) s).1, 0) else ([], 70)
theorem turned_plain {l : List S56} (h : tabOk l = true) {s : ByteArray} (hs : caret s = false) : Ev (fun k => class_turned.f k l s) ((findV normL (l.map ofNm) s).1.map toRg, (findV normL (l.map ofNm) s).2) := by
  refine ev_from 0 fun k _ => ?_
  unfold class_turned.f
  rw [cut_plain hs, Option.bind_some, find_ok h, Option.bind_some]
  dsimp only
  split <;> rfl
theorem turned_caret {l : List S56} (h : tabOk l = true) (s : ByteArray) : Ev (fun k => class_turned.f k l ((⟨#[94]⟩ : ByteArray) ++ s)) ((lackV l s).1.map toRg, (lackV l s).2) := by
  obtain ⟨hN, hl, h2⟩ := find_fact h s
  obtain ⟨K, hK⟩ := not_ev ((findV normL (l.map ofNm) s).1.map toRg) (by rw [List.length_map]; exact hl)
  refine ev_from K fun k hk => ?_
  unfold class_turned.f
  rw [cut_caret, Option.bind_some, find_ok h, Option.bind_some]
  dsimp only
  unfold lackV
  rcases h2 with h2 | h2
  · have hK' : ranges_Not.f k _ = _ := hK k hk
    rw [if_pos h2, if_pos h2, if_pos rfl, hK', Option.bind_some, map_forth, h2]
  · rw [h2]
    rfl
set_option maxRecDepth 100000 in
theorem works_ev : Ev burinlaw04_works.f true := Ev.of burinlaw04_works.mono (k := 40) (by decide +kernel)

theorem tab_c : ∃ l, class_colons.f = some l ∧ tabOk l = true := ⟨_, rfl, by decide +kernel⟩
theorem tab_p : ∃ l, class_properties.f = some l ∧ tabOk l = true := ⟨_, rfl, by decide +kernel⟩
theorem tab_l : ∃ l, class_letters.f = some l ∧ tabOk l = true := ⟨_, rfl, by decide +kernel⟩
/-- Both answers of a name, by the law's own questions. -/
theorem lack_fact {l : List S56} (h : tabOk l = true) (s : ByteArray) : (lackV l s).2 = (findV normL (l.map ofNm) s).2 ∧ ((findV normL (l.map ofNm) s).2 = 0 → (lackV l s).1 = notL (findV normL (l.map ofNm) s).1) := by
  obtain ⟨_, _, h2⟩ := find_fact h s
  unfold lackV
  rcases h2 with h2 | h2
  · rw [if_pos h2]
    exact ⟨h2.symm, fun _ => rfl⟩
  · rw [h2]
    exact ⟨rfl, fun h => by cases h⟩
theorem check_nrm {s : List (Int × Int)} (hs : Nrm s) (hn : s.length ≤ 900000) : Ev (fun k => ranges_Check.f k (s.map toRg)) 0 := by
  have := check_ev s hn
  rwa [chk_nrm hs (fun x hx => by have := (hs.inr x hx).1; omega)] at this
theorem not_same (s : List (Int × Int)) (hn : s.length ≤ 900000) : ∃ K, ∀ k, K ≤ k → ranges_Not.f k (s.map toRg) = some ((notL s).map toRg) ∧ burinbook_SameRanges.f k ((notL s).map toRg) ((notL s).map toRg) = some true := by
  obtain ⟨K, hK⟩ := not_ev (s.map toRg) (by rw [List.length_map]; exact hn)
  obtain ⟨K', hK'⟩ := same_ev ((notL s).map toRg) (by rw [List.length_map]; have := notL_len s; omega)
  refine ⟨max K K', fun k hk => ⟨?_, hK' k (by omega)⟩⟩
  have := hK k (by omega)
  rw [map_forth] at this
  exact this
theorem caret_bt {s : ByteArray} (h : 0 < (s.size : Int)) : ((bt s 0) == 94) = caret s := by
  obtain ⟨⟨l⟩⟩ := s
  cases l with
  | nil => exact absurd h (by decide)
  | cons c t =>
    have e : bt ⟨⟨c :: t⟩⟩ 0 = (c.toNat : Int) := by
      unfold bt
      rw [dif_pos (by simp [sz_cons])]
      rfl
    rw [e]
    unfold caret
    simp only [List.head?_cons]
    rw [Bool.eq_iff_iff]
    simp only [beq_iff_eq, Option.some.injEq]
    constructor
    · intro h
      apply UInt8.toNat_inj.1
      show c.toNat = 94
      omega
    · rintro rfl
      rfl
theorem caret_nil {s : ByteArray} (h : ¬ 0 < (s.size : Int)) : caret s = false := by
  obtain ⟨⟨l⟩⟩ := s
  cases l with
  | nil => rfl
  | cons c t => exact absurd (by rw [sz_cons]; omega) h
set_option maxHeartbeats 1000000 in
theorem letter_ev {c : Int} (h1 : 97 ≤ c) (h2 : c ≤ 122) {l : List S56} (hl : class_letters.f = some l) (ht : tabOk l = true) :
    Ev (fun k => class_Letter.f k c) ((findV normL (l.map ofNm) (strOfNums [c])).1.map toRg, (findV normL (l.map ofNm) (strOfNums [c])).2) ∧
    Ev (fun k => class_Letter.f k (((c - 97) % 256 + 65) % 256)) ((lackV l (strOfNums [c])).1.map toRg, (lackV l (strOfNums [c])).2) := by
  have e1 : ((c - 97) % 256 + 65) % 256 = c - 32 := by omega
  have e2 : ((c - 32 - 65) % 256 + 97) % 256 = c := by omega
  rw [e1]
  refine ⟨ev_from 1 fun k hk => ?_, ?_⟩
  · obtain ⟨m, rfl⟩ : ∃ m, k = m + 1 := ⟨k - 1, by omega⟩
    unfold class_Letter.f
    rw [if_pos (show c ≥ 97 by omega), decide_eq_true h2]
    rw [class_Letter.j0]
    rw [if_pos rfl, hl, Option.bind_some, find_ok ht, Option.bind_some]
  · obtain ⟨K, hK⟩ := turned_caret ht (strOfNums [c])
    refine ev_from (K + 2) fun k hk => ?_
    obtain ⟨m, rfl⟩ : ∃ m, k = m + 1 + 1 := ⟨k - 2, by omega⟩
    have hK' : class_turned.f m l _ = _ := hK m (by omega)
    unfold class_Letter.f
    rw [if_neg (show ¬ c - 32 ≥ 97 by omega)]
    rw [class_Letter.j0]
    rw [if_neg (by decide), if_pos (show c - 32 ≥ 65 by omega), decide_eq_true (show c - 32 ≤ 90 by omega)]
    rw [class_Letter.j1]
    rw [if_pos rfl, hl, Option.bind_some, Option.bind_some, e2, hK', Option.bind_some, if_pos]
    have : (strOfNums [c]).size = 1 := by simp [strOfNums, ByteArray.size]
    omega
theorem j1_ev {s : ByteArray} (hs : s.size ≤ 140737488351232) : Ev (fun k => burinlaw04_ClassLacks.j1 k s) true := by
  obtain ⟨lc, hc, tc⟩ := tab_c
  obtain ⟨lp, hp, tp⟩ := tab_p
  obtain ⟨K1, g1⟩ := turned_caret tc s
  obtain ⟨K2, g2⟩ := turned_caret tp s
  cases hca : caret s with
  | true =>
    have hfc := find_caret tc hca
    have hfp := find_caret tp hca
    have hlc : lackV lc s = ([], 70) := by unfold lackV; rw [hfc]; rfl
    have hlp : lackV lp s = ([], 70) := by unfold lackV; rw [hfp]; rfl
    rw [hlc] at g1
    rw [hlp] at g2
    have hpos : 0 < (s.size : Int) := Decidable.byContradiction fun hh => by rw [caret_nil hh] at hca; cases hca
    have hne : s ≠ ⟨⟨[]⟩⟩ := fun e => by subst e; exact absurd hpos (by decide)
    obtain ⟨t, rfl⟩ : ∃ t, s = (⟨#[94]⟩ : ByteArray) ++ t := by
      obtain ⟨⟨l⟩⟩ := s
      cases l with
      | nil => exact absurd rfl hne
      | cons c t =>
        refine ⟨⟨⟨t⟩⟩, ?_⟩
        rw [caret_app]
        have : c = 94 := by simpa [caret] using hca
        rw [this]
    obtain ⟨K3, g3⟩ := turned_caret tc t
    obtain ⟨K4, g4⟩ := turned_caret tp t
    refine ev_from (K1 + K2 + K3 + K4 + 2) fun k hk => ?_
    obtain ⟨m, rfl⟩ : ∃ m, k = m + 1 + 1 := ⟨k - 2, by omega⟩
    have q1 : class_turned.f (m + 1) lc _ = _ := g1 (m + 1) (by omega)
    have q2 : class_turned.f (m + 1) lp _ = _ := g2 (m + 1) (by omega)
    have q3 : class_turned.f (m + 1) lc _ = _ := g3 (m + 1) (by omega)
    have q4 : class_turned.f (m + 1) lp _ = _ := g4 (m + 1) (by omega)
    have hbt := caret_bt hpos
    rw [hca] at hbt
    rw [burinlaw04_ClassLacks.j1]
    unfold class_Colon.f class_Property.f
    rw [hc, hp, Option.bind_some, Option.bind_some, Option.bind_some, Option.bind_some, q1, q2, q3, q4]
    simp only [Option.bind_some]
    rw [if_pos (by omega), if_pos (by omega), if_pos hpos, hbt]
    rw [burinlaw04_ClassLacks.j2]
    rfl
  | false =>
    obtain ⟨K3, g3⟩ := turned_plain tc hca
    obtain ⟨K4, g4⟩ := turned_plain tp hca
    obtain ⟨n1, b1, o1⟩ := find_fact tc s
    obtain ⟨n2, b2, o2⟩ := find_fact tp s
    obtain ⟨l1, l2⟩ := lack_fact tc s
    obtain ⟨l3, l4⟩ := lack_fact tp s
    generalize lackV lc s = xc at g1 l1 l2
    generalize lackV lp s = xp at g2 l3 l4
    generalize findV normL (lc.map ofNm) s = yc at g3 n1 b1 o1 l1 l2
    generalize findV normL (lp.map ofNm) s = yp at g4 n2 b2 o2 l3 l4
    obtain ⟨xc1, xc2⟩ := xc
    obtain ⟨xp1, xp2⟩ := xp
    obtain ⟨yc1, yc2⟩ := yc
    obtain ⟨yp1, yp2⟩ := yp
    dsimp only at *
    subst l1 l3
    obtain ⟨K5, g5⟩ := check_nrm n1 b1
    obtain ⟨K6, g6⟩ := check_nrm n2 b2
    obtain ⟨K7, g7⟩ := not_same yc1 b1
    obtain ⟨K8, g8⟩ := not_same yp1 b2
    refine ev_from (K1 + K2 + K3 + K4 + K5 + K6 + K7 + K8 + 3) fun k hk => ?_
    obtain ⟨m, rfl⟩ : ∃ m, k = m + 1 + 1 + 1 := ⟨k - 3, by omega⟩
    have q1 : class_turned.f (m + 1 + 1) lc _ = _ := g1 (m + 1 + 1) (by omega)
    have q2 : class_turned.f (m + 1 + 1) lp _ = _ := g2 (m + 1 + 1) (by omega)
    have q3 : class_turned.f (m + 1 + 1) lc _ = _ := g3 (m + 1 + 1) (by omega)
    have q4 : class_turned.f (m + 1 + 1) lp _ = _ := g4 (m + 1 + 1) (by omega)
    have q5 : ranges_Check.f (m + 1) _ = _ := g5 (m + 1) (by omega)
    have q6 : ranges_Check.f (m + 1) _ = _ := g6 (m + 1) (by omega)
    obtain ⟨q7, q7'⟩ := g7 m (by omega)
    obtain ⟨q8, q8'⟩ := g8 m (by omega)
    have key : burinlaw04_ClassLacks.j2 (m + 1 + 1) (yc1.map toRg) xc2 (xc1.map toRg) xc2 (yp1.map toRg) xp2 (xp1.map toRg) xp2 false = some true := by
      rw [burinlaw04_ClassLacks.j2]
      rw [if_neg (by decide), if_pos rfl, if_pos rfl, q5, Option.bind_some, if_pos rfl, q6, Option.bind_some]
      rw [burinlaw04_ClassLacks.j3]
      rw [if_neg (by decide)]
      by_cases e1 : xc2 = 0
      · rw [if_pos e1, q7, Option.bind_some, l2 e1, q7', Option.bind_some, if_pos rfl]
        by_cases e2 : xp2 = 0
        · rw [if_pos e2, q8, Option.bind_some, l4 e2, q8', Option.bind_some]
        · rw [if_neg e2]
      · rw [if_neg e1]
        by_cases e2 : xp2 = 0
        · rw [if_pos e2, q8, Option.bind_some, l4 e2, q8', Option.bind_some]
        · rw [if_neg e2]
    rw [burinlaw04_ClassLacks.j1]
    unfold class_Colon.f class_Property.f
    rw [hc, hp, Option.bind_some, Option.bind_some, Option.bind_some, Option.bind_some, q1, q2, q3, q4]
    simp only [Option.bind_some]
    rw [if_pos (by omega)]
    by_cases hpos : 0 < (s.size : Int)
    · have hbt := caret_bt hpos
      rw [hca] at hbt
      rw [if_pos (by omega), if_pos hpos, hbt]
      exact key
    · rw [if_neg (by omega)]
      exact key
theorem ClassLacks : burinlaw04_ClassLacks.Pure := by
  intro c s hc hs
  obtain ⟨K0, hw⟩ := works_ev
  obtain ⟨K1, hj⟩ := j1_ev hs
  by_cases hr : 97 ≤ c ∧ c ≤ 122
  · obtain ⟨ll, hl, tl⟩ := tab_l
    obtain ⟨⟨K2, g2⟩, ⟨K3, g3⟩⟩ := letter_ev hr.1 hr.2 hl tl
    obtain ⟨n1, b1, o1⟩ := find_fact tl (strOfNums [c])
    obtain ⟨l1, l2⟩ := lack_fact tl (strOfNums [c])
    generalize lackV ll (strOfNums [c]) = xc at g3 l1 l2
    generalize findV normL (ll.map ofNm) (strOfNums [c]) = yc at g2 n1 b1 o1 l1 l2
    obtain ⟨xc1, xc2⟩ := xc
    obtain ⟨yc1, yc2⟩ := yc
    dsimp only at *
    subst l1
    obtain ⟨K4, g4⟩ := check_nrm n1 b1
    obtain ⟨K5, g5⟩ := not_same yc1 b1
    let m := K0 + K1 + K2 + K3 + K4 + K5
    refine ⟨m + 1, ?_⟩
    have q2 : class_Letter.f m _ = _ := g2 m (by omega)
    have q3 : class_Letter.f m _ = _ := g3 m (by omega)
    have q4 : ranges_Check.f m _ = _ := g4 m (by omega)
    obtain ⟨q5, q5'⟩ := g5 m (by omega)
    unfold burinlaw04_ClassLacks.f
    rw [hw (m + 1) (by omega), Option.bind_some, if_pos rfl, if_pos (show c ≥ 97 from hr.1), decide_eq_true hr.2]
    rw [burinlaw04_ClassLacks.j0]
    rw [if_pos rfl, q2, Option.bind_some, q3, Option.bind_some]
    dsimp only
    rw [if_pos rfl, q4, Option.bind_some, if_pos rfl]
    by_cases e1 : xc2 = 0
    · rw [if_pos e1, q5, Option.bind_some, l2 e1, q5', Option.bind_some, if_pos rfl]
      exact hj m (by omega)
    · rw [if_neg e1]
      exact hj m (by omega)
  · refine ⟨K0 + K1 + 1, ?_⟩
    have key : burinlaw04_ClassLacks.j0 (K0 + K1 + 1) c s false = some true := by
      rw [burinlaw04_ClassLacks.j0]
      rw [if_neg (by decide)]
      exact hj _ (by omega)
    unfold burinlaw04_ClassLacks.f
    rw [hw (K0 + K1 + 1) (by omega), Option.bind_some, if_pos rfl]
    by_cases h1 : c ≥ 97
    · rw [if_pos h1, decide_eq_false (fun h2 => hr ⟨h1, h2⟩)]
      exact key
    · rw [if_neg h1]
      exact key
end Go.Proofs.YtnpkfncccddlmaaDoor.Pure
