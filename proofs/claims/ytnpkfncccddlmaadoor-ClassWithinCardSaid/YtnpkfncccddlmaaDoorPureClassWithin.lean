/- ClassWithin: one set within another; no condition. The law's own walk is by hand. -/
import Derived.Test.YtnpkfncccddlmaaDoorHClassWithinx6
namespace Go.Proofs.YtnpkfncccddlmaaDoor.Pure
open Go.RowKit Go.Proofs.YtnpkfncccddlmaaDoor.HClassWithin Go.Proofs.YtnpkfncccddlmaaDoorW.PrintWords Go.Proofs.YtnpkfncccddlmaaDoorW.PrintLast
open Go.Proofs.YtnpkfncccddlmaaDoorX
set_option linter.unusedVariables false

theorem ev_step {α : Type} {g : Nat → Option α} {r : α} (f : Nat → Option α) (h : ∀ k, g (k + 1) = f k) (k : Ev f r) : Ev g r := Ev.step h k
theorem ev_from {α : Type} {g : Nat → Option α} {r : α} (K : Nat) (h : ∀ k, K ≤ k → g k = some r) : Ev g r := ⟨K, h⟩
theorem not_l0 (s : List (Int × Int)) (hs : ∀ x ∈ s, 0 ≤ x.1 ∧ x.1 ≤ x.2 ∧ x.2 ≤ 1114111) (hn : s.length ≤ 900000) (d : Nat) : ∀ (i : Nat) (p : List (Int × Int)) (f : Int), i ≤ s.length → s.length - i = d → p.length + d ≤ 900000 → 0 ≤ f → f ≤ 1114112 →
    Ev (fun k => ranges_Not.l0 k (p.map toRg) f (s.map toRg) (s.length : Int) i) ((p ++ notG f (s.drop i)).map toRg) := by
  induction d with
  | zero =>
    intro i p f hi hd hp h0 h1
    have e : i = s.length := by omega
    subst e
    refine Ev.step (fun k => ?_) (Ev.now _)
    simp only [ranges_Not.l0]
    rw [if_neg (by omega), List.drop_of_length_le (Nat.le_refl _)]
    by_cases hf : f ≤ 1114111
    · rw [if_pos hf, if_pos (by simp; omega), notG, if_pos hf]
      simp [toRg]
    · rw [if_neg hf, notG, if_neg hf, List.append_nil]
  | succ d ih =>
    intro i p f hi hd hp h0 h1
    have hlt : i < s.length := by omega
    have hx := hs _ (List.getElem_mem hlt)
    have hstep : ∀ k, ranges_Not.l0 (k + 1) (p.map toRg) f (s.map toRg) (s.length : Int) i = if s[i].1 > f then ranges_Not.l0 k ((p ++ [(f, s[i].1 - 1)]).map toRg) (s[i].2 + 1) (s.map toRg) (s.length : Int) ((i + 1 : Nat) : Int) else ranges_Not.l0 k (p.map toRg) (s[i].2 + 1) (s.map toRg) (s.length : Int) ((i + 1 : Nat) : Int) := by
      intro k
      simp only [ranges_Not.l0]
      rw [if_pos (by omega), if_pos (by omega), if_pos (by simp; omega), rd_rg s i hlt]
      rw [show (toRg s[i]).f0 = s[i].1 from rfl, show (toRg s[i]).f1 = s[i].2 from rfl, wrap_rg (x := s[i].1 - 1) (by omega) (by omega), wrap_rg (x := s[i].2 + 1) (by omega) (by omega), wrap_rg (x := (i : Int) + 1) (by omega) (by omega), show (i : Int) + 1 = ((i + 1 : Nat) : Int) by omega]
      rw [if_pos (c := (List.map toRg p).length < 8796093022208) (by simp; omega)]
      simp [toRg]
    rw [List.drop_eq_getElem_cons hlt, notG]
    by_cases h : s[i].1 > f
    · rw [if_pos h]
      have := ih (i + 1) (p ++ [(f, s[i].1 - 1)]) (s[i].2 + 1) (by omega) (by omega) (by simp; omega) (by omega) (by omega)
      rw [List.append_assoc] at this
      exact Ev.step (fun k => by rw [hstep k, if_pos h]) this
    · rw [if_neg h]
      exact Ev.step (fun k => by rw [hstep k, if_neg h]) (ih (i + 1) p (s[i].2 + 1) (by omega) (by omega) (by omega) (by omega) (by omega))
theorem not_ev (l : List S42) (hn : l.length ≤ 900000) : Ev (fun k => ranges_Not.f k l) ((notL (l.map ofRg)).map toRg) := by
  have hl := normL_len (l.map ofRg)
  rw [List.length_map] at hl
  have hN := normL_nrm (l.map ofRg)
  have := not_l0 (normL (l.map ofRg)) (fun x hx => hN.inr x hx) (by omega) _ 0 [] 0 (Nat.zero_le _) rfl (by simp; omega) (by omega) (by omega)
  unfold ranges_Not.f
  refine Ev.bind (norm_ev l hn) ?_
  simpa [notL] using this
theorem same_l0 (s : List S42) (hn : s.length ≤ 2000000) (d : Nat) : ∀ i : Nat, i ≤ s.length → s.length - i = d → Ev (fun k => burinbook_SameRanges.l0 k s s true i) true := by
  induction d with
  | zero =>
    intro i hi hd
    refine Ev.step (fun k => ?_) (Ev.now _)
    simp only [burinbook_SameRanges.l0]
    rw [if_pos trivial, if_neg (by omega)]
  | succ d ih =>
    intro i hi hd
    refine Ev.step (fun k => ?_) (ih (i + 1) (by omega) (by omega))
    simp only [burinbook_SameRanges.l0]
    rw [if_pos trivial, if_pos (by omega), if_pos (by omega), if_pos (by omega), wrap_rg (x := (i : Int) + 1) (by omega) (by omega), show (i : Int) + 1 = ((i + 1 : Nat) : Int) by omega]
    simp
theorem same_ev (s : List S42) (hn : s.length ≤ 2000000) : Ev (fun k => burinbook_SameRanges.f k s s) true := by
  have := same_l0 s hn _ 0 (Nat.zero_le _) rfl
  unfold burinbook_SameRanges.f
  simpa using this
/-- Of a text's first byte. -/
theorem ex01 (c : UInt8) (t : List UInt8) : ((ByteArray.mk ⟨c :: t⟩).extract 0 1).toList = [c] := by
  rw [ByteArray.toList_eq, ByteArray.data_extract]
  simp
theorem ex1n (c : UInt8) (t : List UInt8) : (ByteArray.mk ⟨c :: t⟩).extract 1 (t.length + 1) = ⟨⟨t⟩⟩ := by
  apply ByteArray.ext
  rw [ByteArray.data_extract]
  simp
theorem sz_cons (c : UInt8) (t : List UInt8) : (ByteArray.mk ⟨c :: t⟩).size = t.length + 1 := by
  simp [ByteArray.size]
theorem caret_app (s : ByteArray) : (⟨#[94]⟩ : ByteArray) ++ s = ⟨⟨94 :: s.data.toList⟩⟩ := by
  apply ByteArray.ext
  rw [ByteArray.data_append]
  apply Array.ext'
  simp
theorem prefix_cons (c : UInt8) (t : List UInt8) : stringslite_HasPrefix.f ⟨⟨c :: t⟩⟩ (⟨#[94]⟩ : ByteArray) = some (c == 94) := by
  unfold stringslite_HasPrefix.f
  have h1 : (⟨#[94]⟩ : ByteArray).size = 1 := rfl
  have h2 : (⟨#[94]⟩ : ByteArray).toList = [94] := by rw [ByteArray.toList_eq]
  rw [sz_cons, h1, if_pos (by omega), if_pos (by omega), if_pos (by omega), h2, show (((1 : Nat) : Int)).toNat = 1 from rfl, ex01]
  simp
theorem cut_cons (c : UInt8) (t : List UInt8) : strings_CutPrefix.f ⟨⟨c :: t⟩⟩ (⟨#[94]⟩ : ByteArray) = some (if c = 94 then ((⟨⟨t⟩⟩ : ByteArray), true) else (⟨⟨c :: t⟩⟩, false)) := by
  unfold strings_CutPrefix.f stringslite_CutPrefix.f
  rw [prefix_cons, Option.bind_some]
  have h1 : (⟨#[94]⟩ : ByteArray).size = 1 := rfl
  by_cases h : c = 94
  · rw [if_pos (by simpa using h), h1, if_pos (by omega), sz_cons, if_pos (by omega), show (((1 : Nat) : Int)).toNat = 1 from rfl, ex1n, if_pos h]
    rfl
  · rw [if_neg (by simpa using h), if_neg h]
    rfl
theorem cut_nil : strings_CutPrefix.f ⟨⟨[]⟩⟩ (⟨#[94]⟩ : ByteArray) = some ((⟨⟨[]⟩⟩ : ByteArray), false) := by
  unfold strings_CutPrefix.f stringslite_CutPrefix.f stringslite_HasPrefix.f
  rw [if_neg (by decide)]
  rfl
/-- Whether a text begins with the sign for what a set lacks. -/
def caret (s : ByteArray) : Bool := s.data.toList.head? == some 94
theorem cut_plain {s : ByteArray} (h : caret s = false) : strings_CutPrefix.f s (⟨#[94]⟩ : ByteArray) = some (s, false) := by
  obtain ⟨⟨l⟩⟩ := s
  cases l with
  | nil => exact cut_nil
  | cons c t =>
    rw [cut_cons, if_neg]
    intro e
    subst e
    simp [caret] at h
theorem cut_caret (s : ByteArray) : strings_CutPrefix.f ((⟨#[94]⟩ : ByteArray) ++ s) (⟨#[94]⟩ : ByteArray) = some (s, true) := by
  rw [caret_app, cut_cons, if_pos rfl]
theorem splitB_small (sep : ByteArray) (k : Nat) : ∀ s : ByteArray, ∀ x ∈ Lib.splitB sep 0 k s, x.size ≤ s.size := by
  induction k with
  | zero =>
    intro s x hx
    obtain rfl : x = s := by simpa [Lib.splitB] using hx
    exact Nat.le_refl _
  | succ k ih =>
    intro s x hx
    unfold Lib.splitB at hx
    split at hx
    · obtain rfl : x = s := by simpa using hx
      exact Nat.le_refl _
    · rcases List.mem_cons.1 hx with rfl | hx
      · rw [ByteArray.size_extract]; omega
      · have := ih _ x hx
        rw [ByteArray.size_extract] at this
        omega
theorem split_small {s : ByteArray} (h : s.size ≤ 990) : SmallPieces s ∧ splitN s ≤ 1000 := by
  have hle := Lib.countB_le ⟨#[32]⟩ (by decide) s.size s (Nat.le_refl _)
  refine ⟨⟨by omega, fun x hx => ?_⟩, by unfold splitN; omega⟩
  have := splitB_small ⟨#[32]⟩ _ s x hx
  omega
/-- A table of names: short ones, of which none begins with that sign. -/
def tabOk (l : List S56) : Bool := decide (0 < l.length) && l.all fun x => decide (x.f1.size ≤ 990) && !caret x.f0
theorem tab_good {l : List S56} (h : tabOk l = true) : goodNm (l.map ofNm) = true ∧ ∀ x ∈ l.map ofNm, caret x.1 = false := by
  unfold tabOk at h
  simp only [Bool.and_eq_true, decide_eq_true_eq, List.all_eq_true, Bool.not_eq_true'] at h
  refine ⟨?_, fun x hx => ?_⟩
  · unfold goodNm
    simp only [Bool.and_eq_true, decide_eq_true_eq, List.all_eq_true, List.length_map]
    refine ⟨h.1, fun x hx => ?_⟩
    obtain ⟨y, hy, rfl⟩ := List.mem_map.1 hx
    obtain ⟨h1, h2⟩ := split_small (s := (ofNm y).2) (h.2 y hy).1
    exact ⟨⟨h1.1, h1.2⟩, h2⟩
  · obtain ⟨y, hy, rfl⟩ := List.mem_map.1 hx
    exact (h.2 y hy).2
theorem find_ok {l : List S56} (h : tabOk l = true) (s : ByteArray) : class_find.f l s = some ((findV normL (l.map ofNm) s).1.map toRg, (findV normL (l.map ofNm) s).2) := by
  unfold class_find.f
  rw [if_pos (tab_good h).1]
theorem find_fact {l : List S56} (h : tabOk l = true) (s : ByteArray) : Nrm (findV normL (l.map ofNm) s).1 ∧ (findV normL (l.map ofNm) s).1.length ≤ 900000 ∧ ((findV normL (l.map ofNm) s).2 = 0 ∨ findV normL (l.map ofNm) s = ([], 70)) := by
  obtain ⟨_, hg⟩ := good_nm (tab_good h).1
  unfold findV
  cases hf : (l.map ofNm).find? (isNm s) with
  | none => exact ⟨Nrm.nil, by simp, Or.inr rfl⟩
  | some x => exact ⟨normL_nrm _, Nat.le_trans (normL_len _) (hg x (List.mem_of_find?_eq_some hf)).2.2, Or.inl rfl⟩
theorem find_caret {l : List S56} (h : tabOk l = true) {s : ByteArray} (hs : caret s = true) : findV normL (l.map ofNm) s = ([], 70) := by
  unfold findV
  rw [List.find?_eq_none.2]
  intro x hx e
  have := (tab_good h).2 x hx
  unfold isNm at e
  rw [beq_iff_eq, ByteArray.toList_eq, ByteArray.toList_eq] at e
  unfold caret at this hs
  rw [e, hs] at this
  cases this
/-- What a name stands for with the sign ahead. -/
def lackV (l : List S56) (s : ByteArray) : List (Int × Int) × Int := if (findV normL (l.map ofNm) s).2 = 0 then (notL (findV normL (l.map ofNm) s).1, 0) else ([], 70)
theorem turned_plain {l : List S56} (h : tabOk l = true) {s : ByteArray} (hs : caret s = false) : Ev (fun k => class_turned.f k l s) ((findV normL (l.map ofNm) s).1.map toRg, (findV normL (l.map ofNm) s).2) := by
  refine ev_from 0 fun k _ => ?_
  unfold class_turned.f
  rw [cut_plain hs, Option.bind_some, find_ok h, Option.bind_some]
  dsimp only
  split <;> rfl
theorem turned_caret {l : List S56} (h : tabOk l = true) (s : ByteArray) : Ev (fun k => class_turned.f k l ((⟨#[94]⟩ : ByteArray) ++ s)) ((lackV l s).1.map toRg, (lackV l s).2) := by
  obtain ⟨hN, hl, h2⟩ := find_fact h s
  obtain ⟨K, hK⟩ := not_ev ((findV normL (l.map ofNm) s).1.map toRg) (by rw [List.length_map]; exact hl)
  refine ev_from K fun k hk => ?_
  unfold class_turned.f
  rw [cut_caret, Option.bind_some, find_ok h, Option.bind_some]
  dsimp only
  unfold lackV
  rcases h2 with h2 | h2
  · have hK' : ranges_Not.f k _ = _ := hK k hk
    rw [if_pos h2, if_pos h2, if_pos rfl, hK', Option.bind_some, map_forth, h2]
  · rw [h2]
    rfl
/-- Up to a byte, and what stands behind it. -/
def cutL (c : UInt8) : List UInt8 → List UInt8 × Option (List UInt8)
  | [] => ([], none)
  | b :: t => if b = c then ([], some t) else ((b :: (cutL c t).1), (cutL c t).2)
theorem cutL_spec (c : UInt8) : ∀ s : List UInt8, (Lib.indexByte s c = -1 ∧ cutL c s = (s, none)) ∨ ∃ i : Nat, Lib.indexByte s c = i ∧ cutL c s = (s.take i, some (s.drop (i + 1)))
  | [] => .inl ⟨rfl, rfl⟩
  | b :: t => by
    unfold Lib.indexByte cutL
    by_cases h : b = c
    · refine .inr ⟨0, ?_, ?_⟩
      · rw [if_pos (by simpa using h)]; rfl
      · rw [if_pos h]; rfl
    · rw [if_neg (by simpa using h), if_neg h]
      rcases cutL_spec c t with ⟨h1, h2⟩ | ⟨i, h1, h2⟩
      · refine .inl ⟨by rw [h1]; rfl, by rw [h2]⟩
      · refine .inr ⟨i + 1, ?_, by rw [h2]; rfl⟩
        rw [h1, if_neg (by rw [beq_iff_eq]; omega)]
        omega
/-- The pieces between blanks. -/
def splF : Nat → List UInt8 → List (List UInt8)
  | 0, s => [s]
  | k + 1, s => match (cutL 32 s).2 with
    | none => [(cutL 32 s).1]
    | some t => (cutL 32 s).1 :: splF k t
def cntF : Nat → List UInt8 → Nat
  | 0, _ => 0
  | k + 1, s => match (cutL 32 s).2 with
    | none => 0
    | some t => 1 + cntF k t
theorem splF_eq : ∀ (k : Nat) (s : List UInt8), Lib.splitK [32] 0 k s = splF k s
  | 0, s => rfl
  | k + 1, s => by
    unfold Lib.splitK splF
    rw [Lib.index_one]
    rcases cutL_spec 32 s with ⟨h1, h2⟩ | ⟨i, h1, h2⟩
    · rw [h1, h2]; rfl
    · rw [h1, h2, if_neg (by rw [beq_iff_eq]; omega)]
      have e : ((i : Int)).toNat = i := rfl
      show s.take (i + 0) :: Lib.splitK [32] 0 k (s.drop (i + 1)) = s.take i :: splF k (s.drop (i + 1))
      rw [splF_eq k, Nat.add_zero]
theorem cntF_eq : ∀ (k : Nat) (s : List UInt8), Lib.countFrom [32] k s = cntF k s
  | 0, s => rfl
  | k + 1, s => by
    unfold Lib.countFrom cntF
    rw [Lib.index_one]
    rcases cutL_spec 32 s with ⟨h1, h2⟩ | ⟨i, h1, h2⟩
    · rw [h1, h2]; rfl
    · rw [h1, h2, if_neg (by rw [beq_iff_eq]; omega)]
      show 1 + Lib.countFrom [32] k (s.drop (i + 1)) = 1 + cntF k (s.drop (i + 1))
      rw [cntF_eq k]
def numL (l : List UInt8) : Int := l.foldl numStep 0
def pieceL (l : List UInt8) : Int × Int := match (cutL 45 l).2 with
  | none => (numL (cutL 45 l).1, numL (cutL 45 l).1)
  | some b => (numL (cutL 45 l).1, numL b)
theorem pieceV_eq (s : ByteArray) : pieceV s = pieceL s.data.toList := by
  unfold pieceV cutV pieceL numV
  rcases cutL_spec 45 s.data.toList with ⟨h1, h2⟩ | ⟨i, h1, h2⟩
  · rw [h1, h2, if_neg (by decide)]
    rfl
  · rw [h1, h2, if_pos (by omega)]
    have e : ((i : Int)).toNat = i := rfl
    dsimp only
    rw [if_pos rfl, e, Lib.extract_from_zero]
    unfold numL
    congr 2
    rw [ByteArray.data_extract]
    simp only [Array.toList_extract, List.extract_eq_take_drop]
    rw [List.take_of_length_le]
    rw [List.length_drop]
    exact Nat.le_of_eq rfl
def piecesL (s : List UInt8) : List (Int × Int) := (splF (cntF (s.length + 1) s) s).map pieceL
theorem piecesV_eq (s : ByteArray) : piecesV s = piecesL s.data.toList := by
  unfold piecesV piecesL splitV
  have h1 : Lib.countB s ⟨#[32]⟩ = cntF (s.data.toList.length + 1) s.data.toList := cntF_eq _ _
  have h2 := Lib.splitB_data ⟨#[32]⟩ 0 (Lib.countB s ⟨#[32]⟩) s
  rw [show (⟨#[32]⟩ : ByteArray).data.toList = [32] from rfl, splF_eq, h1] at h2
  rw [← h2, List.map_map, h1]
  exact List.map_congr_left fun x _ => pieceV_eq x
/-- A table looked up. -/
def look {β : Type} : List (List UInt8 × β) → List UInt8 → Option β
  | [], _ => none
  | x :: t, nm => if nm = x.1 then some x.2 else look t nm
theorem look_map {β γ : Type} (g : β → γ) (nm : List UInt8) : ∀ l : List (List UInt8 × β), look (l.map fun x => (x.1, g x.2)) nm = (look l nm).map g
  | [] => rfl
  | x :: t => by
    rw [List.map_cons]
    unfold look
    by_cases h : nm = x.1
    · rw [if_pos h, if_pos h]; rfl
    · rw [if_neg h, if_neg h]; exact look_map g nm t
theorem look_mem {β : Type} {nm : List UInt8} {v : β} : ∀ {l : List (List UInt8 × β)}, look l nm = some v → ∃ x ∈ l, x.2 = v
  | [], h => by cases h
  | x :: t, h => by
    unfold look at h
    by_cases e : nm = x.1
    · rw [if_pos e] at h; exact ⟨x, List.mem_cons_self, Option.some.inj h⟩
    · rw [if_neg e] at h
      obtain ⟨y, hy, hv⟩ := look_mem h
      exact ⟨y, List.mem_cons_of_mem _ hy, hv⟩
def tabL (l : List S56) : List (List UInt8 × List (Int × Int)) := l.map fun x => (x.f0.data.toList, piecesL x.f1.data.toList)
def ansV : Option (List (Int × Int)) → List (Int × Int) × Int
  | none => ([], 70)
  | some p => (normL p, 0)
theorem find_look (s : ByteArray) : ∀ l : List S56, findV normL (l.map ofNm) s = ansV (look (tabL l) s.toList)
  | [] => rfl
  | x :: t => by
    have ih := find_look s t
    unfold findV at ih ⊢
    rw [List.map_cons, List.find?_cons]
    show _ = ansV (look ((x.f0.data.toList, piecesL x.f1.data.toList) :: tabL t) s.toList)
    unfold look isNm
    by_cases h : s.toList = x.f0.data.toList
    · rw [if_pos h]
      have : ((ofNm x).1.toList == s.toList) = true := by rw [h, beq_iff_eq, ByteArray.toList_eq]; rfl
      rw [this]
      show (normL (piecesV x.f1), (0 : Int)) = _
      rw [piecesV_eq]
      rfl
    · rw [if_neg h]
      have : ((ofNm x).1.toList == s.toList) = false := by
        rw [beq_eq_false_iff_ne]
        intro e
        exact h (e.symm.trans (ByteArray.toList_eq _))
      rw [this]
      exact ih
def ins (x : Int) : List Int → List Int
  | [] => [x]
  | y :: t => if x ≤ y then x :: y :: t else y :: ins x t
def isort : List Int → List Int
  | [] => []
  | x :: t => ins x (isort t)
theorem ins_perm (x : Int) : ∀ l, (ins x l).Perm (x :: l)
  | [] => List.Perm.refl _
  | y :: t => by
    unfold ins
    split
    · exact List.Perm.refl _
    · exact ((ins_perm x t).cons y).trans (List.Perm.swap x y t)
theorem isort_perm : ∀ l, (isort l).Perm l
  | [] => List.Perm.refl _
  | x :: t => (ins_perm x _).trans ((isort_perm t).cons x)
theorem ins_sorted (x : Int) : ∀ l : List Int, l.Pairwise (· ≤ ·) → (ins x l).Pairwise (· ≤ ·)
  | [], _ => by simp [ins]
  | y :: t, h => by
    unfold ins
    rw [List.pairwise_cons] at h
    split
    · rename_i hxy
      rw [List.pairwise_cons, List.pairwise_cons]
      refine ⟨fun a ha => ?_, h⟩
      rcases List.mem_cons.1 ha with rfl | ha
      · exact hxy
      · have := h.1 a ha; omega
    · rename_i hxy
      rw [List.pairwise_cons]
      refine ⟨fun a ha => ?_, ins_sorted x t h.2⟩
      rcases List.mem_cons.1 ((ins_perm x t).mem_iff.1 ha) with rfl | ha
      · omega
      · exact h.1 a ha
theorem isort_sorted : ∀ l, (isort l).Pairwise (· ≤ ·)
  | [] => List.Pairwise.nil
  | x :: t => ins_sorted x _ (isort_sorted t)
theorem merge_isort (l : List Int) : (l.mergeSort fun x y => decide (x ≤ y)) = isort l := by
  refine List.Perm.eq_of_pairwise (le := fun a b : Int => a ≤ b) (fun a b _ _ h1 h2 => by omega) ?_ (isort_sorted l) ((List.mergeSort_perm l _).trans (isort_perm l).symm)
  have := List.pairwise_mergeSort (le := fun x y : Int => decide (x ≤ y)) (fun a b c h1 h2 => by simp at *; omega) (fun a b => by simp; omega) l
  exact this.imp (fun h => by simpa using h)
def insP (x : Int × Int) : List (Int × Int) → List (Int × Int)
  | [] => [x]
  | y :: t => if x.1 ≤ y.1 then x :: y :: t else y :: insP x t
def isortP : List (Int × Int) → List (Int × Int)
  | [] => []
  | x :: t => insP x (isortP t)
theorem insP_perm (x : Int × Int) : ∀ l, (insP x l).Perm (x :: l)
  | [] => List.Perm.refl _
  | y :: t => by
    unfold insP
    split
    · exact List.Perm.refl _
    · exact ((insP_perm x t).cons y).trans (List.Perm.swap x y t)
theorem isortP_perm : ∀ l, (isortP l).Perm l
  | [] => List.Perm.refl _
  | x :: t => (insP_perm x _).trans ((isortP_perm t).cons x)
theorem insP_sorted (x : Int × Int) : ∀ l : List (Int × Int), l.Pairwise (fun x y => x.1 ≤ y.1) → (insP x l).Pairwise (fun x y => x.1 ≤ y.1)
  | [], _ => by simp [insP]
  | y :: t, h => by
    unfold insP
    rw [List.pairwise_cons] at h
    split
    · rename_i hxy
      rw [List.pairwise_cons, List.pairwise_cons]
      refine ⟨fun a ha => ?_, h⟩
      rcases List.mem_cons.1 ha with rfl | ha
      · exact hxy
      · have := h.1 a ha; omega
    · rename_i hxy
      rw [List.pairwise_cons]
      refine ⟨fun a ha => ?_, insP_sorted x t h.2⟩
      rcases List.mem_cons.1 ((insP_perm x t).mem_iff.1 ha) with rfl | ha
      · omega
      · exact h.1 a ha
theorem isortP_sorted : ∀ l, (isortP l).Pairwise (fun x y => x.1 ≤ y.1)
  | [] => List.Pairwise.nil
  | x :: t => insP_sorted x _ (isortP_sorted t)
theorem normL_by {l S : List (Int × Int)} (hm : S.Perm (l.flatMap clip)) (hs : S.Pairwise (fun x y => x.1 ≤ y.1)) : normL l = mergeL S := by
  have h : Nrm (mergeL S) ∧ ∀ r, inL (mergeL S) r = hasL l r := by
    have hr : ∀ x ∈ S, 0 ≤ x.1 ∧ x.1 ≤ x.2 ∧ x.2 ≤ 1114111 := fun x hx => clip_range (hm.mem_iff.1 hx)
    have hin : ∀ r, inL S r = hasL l r := fun r => (inL_perm hm r).trans (clip_in l r)
    cases S with
    | nil => exact ⟨Nrm.nil, hin⟩
    | cons x t =>
      have h := go1_all t x (hr x (by simp)) (fun z hz => hr z (by simp [hz])) hs
      exact ⟨h.1, fun r => (h.2.2 r).trans (hin r)⟩
  exact nrm_ext (normL_nrm l) h.1 fun r => (normL_in l r).trans (h.2 r).symm
theorem normL_isort (l : List (Int × Int)) : normL l = mergeL (isortP (l.flatMap clip)) := normL_by (isortP_perm _) (isortP_sorted _)
set_option maxRecDepth 100000 in
theorem works_ev : Ev burinlaw04_works.f true := Ev.of burinlaw04_works.mono (k := 40) (by decide +kernel)
theorem colons_ok : ∃ l, class_colons.f = some l ∧ tabOk l = true := ⟨_, rfl, by decide +kernel⟩
theorem props_ok : ∃ l, class_properties.f = some l ∧ tabOk l = true := ⟨_, rfl, by decide +kernel⟩
def lookC (s : List UInt8) : Option (List (Int × Int)) := class_colons.f.bind fun l => look (tabL l) s
def lookP (s : List UInt8) : Option (List (Int × Int)) := class_properties.f.bind fun l => look (tabL l) s
/-- What a name stands for: looked up in both tables. -/
def setP (s : ByteArray) : List (Int × Int) := match lookC s.data.toList with
  | some p => p
  | none => (lookP s.data.toList).getD []
def setOk (s : ByteArray) : Bool := !caret s && ((lookC s.data.toList).isSome || (lookP s.data.toList).isSome)
theorem set_ev {s : ByteArray} (h : setOk s = true) : Ev (fun k => burinlaw04_set.f k s) ((normL (setP s)).map toRg) := by
  obtain ⟨l, hl, ht⟩ := colons_ok
  obtain ⟨m, hm, hu⟩ := props_ok
  unfold setOk at h
  rw [Bool.and_eq_true, Bool.not_eq_true', Bool.or_eq_true] at h
  obtain ⟨hc, h⟩ := h
  obtain ⟨K, g⟩ := turned_plain ht hc
  obtain ⟨K', g'⟩ := turned_plain hu hc
  rw [find_look, ByteArray.toList_eq] at g g'
  have e1 : lookC s.data.toList = look (tabL l) s.data.toList := by unfold lookC; rw [hl]; rfl
  have e2 : lookP s.data.toList = look (tabL m) s.data.toList := by unfold lookP; rw [hm]; rfl
  rw [← e1] at g
  rw [← e2] at g'
  unfold setP
  refine ev_from (K + K') fun k hk => ?_
  have q : class_turned.f k l s = _ := g k (by omega)
  have q' : class_turned.f k m s = _ := g' k (by omega)
  unfold burinlaw04_set.f class_Colon.f class_Property.f
  rw [hl, hm, Option.bind_some, Option.bind_some, q, q']
  cases h1 : lookC s.data.toList with
  | some p => rfl
  | none =>
    cases h2 : lookP s.data.toList with
    | some p => rfl
    | none =>
      rw [h1, h2] at h
      rcases h with h | h <;> cases h
def SetPost (w : World) (L : List S42) (e : Ending) (w' : World) : Prop := ∃ A c, e = .returned (.slice A L.length c) ∧ Kd.C k42 w' A L.length L ∧ L.length ≤ c ∧ Below w.heap.size w w'
theorem post_of {w : World} {L : List S42} {e : Ending} {w' : World} (h : ∃ v0_ : Value, e = .returned v0_ ∧ Kd.R k42 42 w' w.heap.size (fun _ => True) v0_ L ∧ Below w.heap.size w w') : SetPost w L e w' := by
  obtain ⟨v, rfl, hR, hb⟩ := h
  obtain ⟨A, c, rfl⟩ := Kd.R_slice hR
  exact ⟨A, c, rfl, (Kd.R_reads' hR).2.2, (Kd.R_reads' hR).2.1, hb⟩
theorem set_at {s : ByteArray} (h : setOk s = true) (w : World) : Calls Tryd.prog 21 #[.string s] w (SetPost w ((normL (setP s)).map toRg)) := by
  obtain ⟨k, hk⟩ := Ev.rounds (set_ev h)
  exact (burinlaw04_set.calls k s _ w hk).mono fun e w' h => post_of h
theorem works_at (w : World) : Calls Tryd.prog 17 #[] w (fun e w' => e = .returned (.bool true) ∧ Below w.heap.size w w') := by
  obtain ⟨k, hk⟩ := Ev.rounds works_ev
  exact burinlaw04_works.calls k true w hk
/-- The pairs of the law: each one's first within its second. -/
def tabW : List (ByteArray × ByteArray) := [(⟨#[100, 105, 103, 105, 116]⟩, ⟨#[97, 108, 110, 117, 109]⟩), (⟨#[97, 108, 112, 104, 97]⟩, ⟨#[97, 108, 110, 117, 109]⟩), (⟨#[97, 108, 110, 117, 109]⟩, ⟨#[103, 114, 97, 112, 104]⟩), (⟨#[112, 117, 110, 99, 116]⟩, ⟨#[103, 114, 97, 112, 104]⟩), (⟨#[103, 114, 97, 112, 104]⟩, ⟨#[112, 114, 105, 110, 116]⟩), (⟨#[112, 114, 105, 110, 116]⟩, ⟨#[97, 115, 99, 105, 105]⟩), (⟨#[117, 112, 112, 101, 114]⟩, ⟨#[97, 108, 112, 104, 97]⟩), (⟨#[108, 111, 119, 101, 114]⟩, ⟨#[97, 108, 112, 104, 97]⟩), (⟨#[120, 100, 105, 103, 105, 116]⟩, ⟨#[97, 108, 110, 117, 109]⟩), (⟨#[98, 108, 97, 110, 107]⟩, ⟨#[115, 112, 97, 99, 101]⟩), (⟨#[99, 110, 116, 114, 108]⟩, ⟨#[97, 115, 99, 105, 105]⟩), (⟨#[76, 117]⟩, ⟨#[76]⟩), (⟨#[76, 108]⟩, ⟨#[76]⟩), (⟨#[71, 114, 101, 101, 107]⟩, ⟨#[76]⟩), (⟨#[76, 97, 116, 105, 110]⟩, ⟨#[65, 110, 121]⟩), (⟨#[100, 105, 103, 105, 116]⟩, ⟨#[78, 100]⟩), (⟨#[97, 108, 112, 104, 97]⟩, ⟨#[76, 97, 116, 105, 110]⟩)]
def subB (a b : List (Int × Int)) : Bool := a.all fun x => b.any fun y => decide (y.1 ≤ x.1) && decide (x.2 ≤ y.2)
theorem sub_has {a b : List (Int × Int)} (h : subB a b = true) {r : Int} (hr : hasL a r = true) : hasL b r = true := by
  unfold hasL at hr ⊢
  simp only [Bool.and_eq_true, decide_eq_true_eq] at hr ⊢
  have hi := inL_iff.1 (by first | exact hr.2 | exact hr.2.2)
  obtain ⟨x, hx, h1, h2⟩ := hi
  have hs := List.all_eq_true.1 h x hx
  obtain ⟨y, hy, h3⟩ := List.any_eq_true.1 hs
  simp only [Bool.and_eq_true, decide_eq_true_eq] at h3
  have hb : inL b r = true := inL_iff.2 ⟨y, hy, by omega, by omega⟩
  first | exact ⟨hr.1, hb⟩ | exact ⟨hr.1, hr.2.1, hb⟩
def wOk (x : ByteArray × ByteArray) : Bool := setOk x.1 && setOk x.2 && subB (setP x.1) (setP x.2)
set_option maxRecDepth 100000 in
theorem w_ok : tabW.all wOk = true := by decide +kernel
def encW (x : ByteArray × ByteArray) : List Value := [.string x.1, .string x.2]
theorem pair_get : ∀ (l : List (ByteArray × ByteArray)) (i : Nat) (h : i < l.length), (l.flatMap encW)[i * 2]? = some (.string l[i].1) ∧ (l.flatMap encW)[i * 2 + 1]? = some (.string l[i].2)
  | x :: t, 0, _ => ⟨rfl, rfl⟩
  | x :: t, i + 1, h => by
    have := pair_get t i (by simpa using h)
    have e : (i + 1) * 2 = i * 2 + 1 + 1 := by omega
    rw [List.flatMap_cons, e]
    exact this
theorem has_norm (p : List (Int × Int)) (r : Int) : hasL (normL p) r = hasL p r := (hasL_nrm (normL_nrm p) r).trans (normL_in p r)
theorem has_set (s : ByteArray) (r : Int) : ranges_Has.f ((normL (setP s)).map toRg) r = some (hasL (setP s) r) := by
  show some (hasL (((normL (setP s)).map toRg).map ofRg) r) = _
  rw [map_forth, has_norm]
/-- What the law asks of a pair. -/
theorem w_fact {x : ByteArray × ByteArray} (h : wOk x = true) (r : Int) : ∃ (La Lb : List S42) (ba bb : Bool), (∀ w, Calls Tryd.prog 21 #[.string x.1] w (SetPost w La)) ∧ (∀ w, Calls Tryd.prog 21 #[.string x.2] w (SetPost w Lb)) ∧ ranges_Has.f La r = some ba ∧ ranges_Has.f Lb r = some bb ∧ (ba = true → bb = true) := by
  unfold wOk at h
  rw [Bool.and_eq_true, Bool.and_eq_true] at h
  exact ⟨_, _, _, _, set_at h.1.1, set_at h.1.2, has_set _ _, has_set _ _, sub_has h.2⟩
def litOk (s : ByteArray) (L : List (Int × Int)) : Bool := setOk s && mergeL (isortP ((setP s).flatMap clip)) == L
theorem set_lit {s : ByteArray} {L : List (Int × Int)} (h : litOk s L = true) (w : World) : Calls Tryd.prog 21 #[.string s] w (SetPost w (L.map toRg)) := by
  unfold litOk at h
  rw [Bool.and_eq_true, beq_iff_eq] at h
  have := set_at h.1 w
  rwa [normL_isort, h.2] at this
theorem union_lit {a b c : List (Int × Int)} (ha : a.length ≤ 100) (hb : b.length ≤ 100) (h : mergeL (isortP ((a ++ b).flatMap clip)) = c) : ranges_Union.f (a.map toRg) (b.map toRg) = some (c.map toRg) := by
  unfold ranges_Union.f
  rw [if_pos (by rw [List.length_map, List.length_map]; omega), map_forth, map_forth]
  unfold unionL
  rw [normL_isort, h]
theorem both_lit {a b c : List (Int × Int)} (ha : a.length ≤ 100) (hb : b.length ≤ 100) (h : bothL (mergeL (isortP (a.flatMap clip))) (mergeL (isortP (b.flatMap clip))) = c) : ranges_Both.f (a.map toRg) (b.map toRg) = some (c.map toRg) := by
  unfold ranges_Both.f
  rw [if_pos (by rw [List.length_map, List.length_map]; omega), map_forth, map_forth]
  unfold bothF
  rw [normL_isort, normL_isort, h]
/-- What the law asks at its end. -/
theorem end_fact : ∃ (La Lp Lg Lc Lr : List S42) (k : Nat), (∀ w, Calls Tryd.prog 21 #[.string ⟨#[97, 108, 110, 117, 109]⟩] w (SetPost w La)) ∧ (∀ w, Calls Tryd.prog 21 #[.string ⟨#[112, 117, 110, 99, 116]⟩] w (SetPost w Lp)) ∧ (∀ w, Calls Tryd.prog 21 #[.string ⟨#[103, 114, 97, 112, 104]⟩] w (SetPost w Lg)) ∧ (∀ w, Calls Tryd.prog 21 #[.string ⟨#[99, 110, 116, 114, 108]⟩] w (SetPost w Lc)) ∧ (∀ w, Calls Tryd.prog 21 #[.string ⟨#[112, 114, 105, 110, 116]⟩] w (SetPost w Lr)) ∧
    ranges_Union.f La Lp = some Lg ∧ ranges_Union.f Lg [⟨32, 32⟩] = some Lr ∧ ranges_Both.f Lc Lr = some [] ∧ burinbook_SameRanges.f k Lg Lg = some true ∧ burinbook_SameRanges.f k Lr Lr = some true := by
  obtain ⟨K, hK⟩ := same_ev (([(33, 126)] : List (Int × Int)).map toRg) (by decide)
  obtain ⟨K', hK'⟩ := same_ev (([(32, 126)] : List (Int × Int)).map toRg) (by decide)
  exact ⟨_, _, _, _, _, K + K', set_lit (L := [(48, 57), (65, 90), (97, 122)]) (by decide +kernel), set_lit (L := [(33, 47), (58, 64), (91, 96), (123, 126)]) (by decide +kernel), set_lit (L := [(33, 126)]) (by decide +kernel), set_lit (L := [(0, 31), (127, 127)]) (by decide +kernel), set_lit (L := [(32, 126)]) (by decide +kernel),
    union_lit (by decide) (by decide) (by decide +kernel), union_lit (b := [(32, 32)]) (by decide) (by decide) (by decide +kernel), both_lit (c := []) (by decide) (by decide) (by decide +kernel), hK _ (by omega), hK' _ (by omega)⟩
def PostN (w : World) (L : List S42) (e : Ending) (w' : World) : Prop := ∃ A n c, n = L.length ∧ e = .returned (.slice A n c) ∧ Kd.C k42 w' A n L ∧ n ≤ c ∧ Below w.heap.size w w'
theorem postN {w : World} {L : List S42} {e : Ending} {w' : World} (h : SetPost w L e w') : PostN w L e w' := by
  obtain ⟨A, c, he, hC, hc, hb⟩ := h
  exact ⟨A, _, c, rfl, he, hC, hc, hb⟩
theorem union_c {A A' : Option Addr} {n c n' c' : Nat} {L L' R : List S42} {w : World} (hn : n = L.length) (hC : Kd.C k42 w A n L) (hc : n ≤ c) (hn' : n' = L'.length) (hC' : Kd.C k42 w A' n' L') (hc' : n' ≤ c') (h : ranges_Union.f L L' = some R) :
    Calls Tryd.prog 22 #[.slice A n c, .slice A' n' c'] w (PostN w R) := by
  subst hn hn'
  exact (ranges_Union.calls A c L A' c' L' R w hC hc hC' hc' h).mono fun e w' h => postN (post_of h)
theorem both_c {A A' : Option Addr} {n c n' c' : Nat} {L L' R : List S42} {w : World} (hn : n = L.length) (hC : Kd.C k42 w A n L) (hc : n ≤ c) (hn' : n' = L'.length) (hC' : Kd.C k42 w A' n' L') (hc' : n' ≤ c') (h : ranges_Both.f L L' = some R) :
    Calls Tryd.prog 23 #[.slice A n c, .slice A' n' c'] w (PostN w R) := by
  subst hn hn'
  exact (ranges_Both.calls A c L A' c' L' R w hC hc hC' hc' h).mono fun e w' h => postN (post_of h)
theorem same_c {A A' : Option Addr} {n c n' c' k : Nat} {L : List S42} {w : World} (hn : n = L.length) (hC : Kd.C k42 w A n L) (hc : n ≤ c) (hn' : n' = L.length) (hC' : Kd.C k42 w A' n' L) (hc' : n' ≤ c') (h : burinbook_SameRanges.f k L L = some true) :
    Calls Tryd.prog 13 #[.slice A n c, .slice A' n' c'] w (fun e w' => e = .returned (.bool true) ∧ Below w.heap.size w w') := by
  subst hn hn'
  exact (burinbook_SameRanges.calls k A c L A' c' L true w hC hc hC' hc' h).mono fun e w' ⟨he, hb⟩ => ⟨he, hb.below⟩
theorem c_one (W : World) : Kd.C k42 (W.alloc (.cells #[.int .i64 32, .int .i64 32] 42)) (some ⟨W.heap.size, 0, none⟩) 1 [⟨32, 32⟩] := by
  refine ⟨rfl, by decide, fun _ => ⟨_, rfl, fun j p hj => ?_⟩⟩
  match j, hj with
  | 0, hj =>
    obtain rfl := Option.some.inj hj
    refine ⟨[.int .i64 32, .int .i64 32], rfl, ⟨_, _, rfl, rfl, rfl⟩, fun i v hi => ?_⟩
    match i, hi with
    | 0, hi => exact (blk_cell (heap_alloc_new W _) 0).trans hi
    | 1, hi => exact (blk_cell (heap_alloc_new W _) 1).trans hi
set_option maxHeartbeats 4000000 in
set_option maxRecDepth 100000 in
theorem within_at (r : Int) (w : World) : Calls Tryd.prog 5 #[.int .i64 r] w (fun e w' => e = .returned (.bool true) ∧ Below w.heap.size w w') := by
  go_enter Tryd.func5, Tryd.ntmps5
  go_wp2_with fail
  refine (works_at w).mono ?_
  rintro e w1 ⟨rfl, hb1⟩
  have HB1 := Aside0.mk hb1
  clear hb1
  go_wp2_with fail
  have HR := Aside0.mk (heap_alloc_new w1 (.cells (tabW.flatMap encW).toArray 36))
  have HB := Aside0.mk (HB1.out.alloc HB1.out.size (.cells (tabW.flatMap encW).toArray 36))
  change Code.wp _ _ _ _ (w1.alloc (.cells (tabW.flatMap encW).toArray 36))
  have hB0 := HB1.out.size
  clear HB1
  generalize w1.alloc (.cells (tabW.flatMap encW).toArray 36) = W0 at HR HB ⊢
  generalize w1.heap.size = B at HR hB0 ⊢
  go_loopg [27] 17 (fun gq t27 wr => ∃ i : Nat, i ≤ 17 ∧ 17 - i ≤ gq ∧ t27 = .int .i64 i ∧ Aside0 (wr.heap[B]? = some (.cells (tabW.flatMap encW).toArray 36 (0, 0))) ∧ Aside0 (Below w.heap.size w wr))
  case atStart => exact ⟨0, by omega, by omega, rfl, HR, HB⟩
  case round =>
    obtain ⟨i, hi, hgq, rfl, HR, HB⟩ := hrel
    by_cases hlt : i < 17
    · have hx := List.all_eq_true.1 w_ok tabW[i] (List.getElem_mem (show i < tabW.length from hlt))
      have c0 : wr.cell? ⟨B, i * 2, none⟩ = some (.string tabW[i].1) := (blk_cell HR.out (i * 2)).trans (by rw [List.getElem?_toArray]; exact (pair_get tabW i hlt).1)
      have c1 : wr.cell? ⟨B, i * 2 + 1, none⟩ = some (.string tabW[i].2) := (blk_cell HR.out (i * 2 + 1)).trans (by rw [List.getElem?_toArray]; exact (pair_get tabW i hlt).2)
      have hne : B < wr.heap.size := (Array.getElem?_eq_some_iff.1 HR.out).1
      have hne2 : B ≠ wr.heap.size := by omega
      generalize tabW[i] = x at hx c0 c1
      obtain ⟨La, Lb, ba, bb, ha, hb, ja, jb, jab⟩ := w_fact hx r
      obtain ⟨a, b⟩ := x
      clear hx
      have HA := Aside0.mk ha
      have HBB := Aside0.mk hb
      have JA := Aside0.mk ja
      have JB := Aside0.mk jb
      have JAB := Aside0.mk jab
      clear ha hb ja jb jab
      try dsimp only at c0 c1
      go_wp2_with fail
      have hbw := HB.out.alloc HB.out.size (.cells #[.string a, .string b] 36)
      have hrw := (Below.heap_alloc wr (.cells #[.string a, .string b] 36) B hne).trans HR.out
      have hcp := (blk_cell (heap_alloc_new wr (.cells #[.string a, .string b] 36)) 1).trans rfl
      have hsz : (wr.alloc (.cells #[.string a, .string b] 36)).heap.size = wr.heap.size + 1 := by simp
      clear c0 c1 HR HB
      generalize wr.alloc (.cells #[.string a, .string b] 36) = W at hbw hrw hcp hsz ⊢
      generalize wr.heap.size = P at hcp hsz hne hne2 ⊢
      have HQ := Aside0.mk (show B < W.heap.size ∧ P < W.heap.size by omega)
      refine (HA.out W).mono ?_
      rintro e w2 ⟨A, c, rfl, hC, hc, h2⟩
      have HS := Aside0.mk hbw
      have HT := Aside0.mk hrw
      have HU := Aside0.mk hcp
      have H2 := Aside0.mk h2
      have HC := Aside0.mk hC
      have HD := Aside0.mk hc
      clear hbw hrw hcp h2 hC hc
      generalize hll : La.length = nl at HC HD ⊢
      have HLL := Aside0.mk hll
      clear hll
      go_wp2_with fail
      have q3 : Calls Tryd.prog 20 #[.slice A nl c, .int .i64 r] w2 fun e w' => e = .returned (.bool ba) ∧ Below w2.heap.size w2 w' := by
        have e0 := HLL.out
        subst e0
        exact ranges_Has.calls A c La r ba w2 HC.out HD.out JA.out
      refine q3.mono ?_
      rintro e w3 ⟨rfl, h3⟩
      have hs2 := H2.out.size
      have B3 := HS.out.trans ((H2.out.trans (h3.mono hs2)).mono HS.out.size)
      have W3 := H2.out.trans (h3.mono hs2)
      have R3 := (W3.block B HQ.out.1).trans HT.out
      have c3 := (W3.cell (p := ⟨P, 1, none⟩) HQ.out.2).trans HU.out
      have BB := Aside0.mk B3
      have RR := Aside0.mk R3
      clear B3 R3 W3 h3 hs2 H2 HC HD HS HT HU q3
      cases ba with
      | false =>
        go_wp2_with fail
        go_roundg (17 - (i + 1))
        case measure => omega
        case rel => exact ⟨i + 1, by omega, Nat.le_refl _, by rw [show ((i + 1 : Nat) : Int) = (i : Int) + 1 by omega], RR, BB⟩
      | true =>
        obtain rfl := JAB.out rfl
        go_wp2_with fail
        refine (HBB.out w3).mono ?_
        rintro e w4 ⟨A', c', rfl, hC, hc, h4⟩
        have HC := Aside0.mk hC
        have HD := Aside0.mk hc
        have H4 := Aside0.mk h4
        clear hC hc h4
        generalize hll : Lb.length = nl' at HC HD ⊢
        have HLL' := Aside0.mk hll
        clear hll
        go_wp2_with fail
        have q5 : Calls Tryd.prog 20 #[.slice A' nl' c', .int .i64 r] w4 fun e w' => e = .returned (.bool true) ∧ Below w4.heap.size w4 w' := by
          have e0 := HLL'.out
          subst e0
          exact ranges_Has.calls A' c' Lb r true w4 HC.out HD.out JB.out
        refine q5.mono ?_
        rintro e w5 ⟨rfl, h5⟩
        have W5 := H4.out.trans (h5.mono H4.out.size)
        have B5 := Aside0.mk (BB.out.trans (W5.mono BB.out.size))
        have R5 := Aside0.mk ((W5.block B (Array.getElem?_eq_some_iff.1 RR.out).1).trans RR.out)
        clear W5 h5 H4 q5 HC HD
        go_wp2_with fail
        go_roundg (17 - (i + 1))
        case measure => omega
        case rel => exact ⟨i + 1, by omega, Nat.le_refl _, by rw [show ((i + 1 : Nat) : Int) = (i : Int) + 1 by omega], R5, B5⟩
    · obtain rfl : i = 17 := by omega
      obtain ⟨La, Lp, Lg, Lc, Lr, k, ea, ep, eg, ec, er, u1, u2, u3, s1, s2⟩ := end_fact
      have EA := Aside0.mk (fun w => (ea w).mono fun e w' h => postN h)
      have EP := Aside0.mk (fun w => (ep w).mono fun e w' h => postN h)
      have EG := Aside0.mk (fun w => (eg w).mono fun e w' h => postN h)
      have EC := Aside0.mk (fun w => (ec w).mono fun e w' h => postN h)
      have ER := Aside0.mk (fun w => (er w).mono fun e w' h => postN h)
      have U1 := Aside0.mk u1
      have U2 := Aside0.mk u2
      have U3 := Aside0.mk u3
      have S1 := Aside0.mk s1
      have S2 := Aside0.mk s2
      clear ea ep eg ec er u1 u2 u3 s1 s2 HR
      go_wp2_with fail
      refine (EA.out wr).mono ?_
      rintro e w2 ⟨A1, n1, c1, hn1, rfl, hC1, hc1, h2⟩
      have F1 := Aside0.mk (And.intro hn1 (And.intro hC1 hc1))
      have HB := Aside0.mk (HB.out.trans (h2.mono HB.out.size))
      clear hn1 hC1 hc1 h2
      go_wp2_with fail
      refine (EP.out w2).mono ?_
      rintro e w3 ⟨A2, n2, c2, hn2, rfl, hC2, hc2, h3⟩
      have F1 := Aside0.mk (And.intro F1.out.1 (And.intro (Kd.C_below F1.out.2.1 h3) F1.out.2.2))
      have F2 := Aside0.mk (And.intro hn2 (And.intro hC2 hc2))
      have HB := Aside0.mk (HB.out.trans (h3.mono HB.out.size))
      clear hn2 hC2 hc2 h3
      go_wp2_with fail
      refine (union_c F1.out.1 F1.out.2.1 F1.out.2.2 F2.out.1 F2.out.2.1 F2.out.2.2 U1.out).mono ?_
      rintro e w4 ⟨A3, n3, c3, hn3, rfl, hC3, hc3, h4⟩
      have F3 := Aside0.mk (And.intro hn3 (And.intro hC3 hc3))
      have HB := Aside0.mk (HB.out.trans (h4.mono HB.out.size))
      clear hn3 hC3 hc3 h4 F1 F2
      go_wp2_with fail
      refine (EG.out w4).mono ?_
      rintro e w5 ⟨A4, n4, c4, hn4, rfl, hC4, hc4, h5⟩
      have F3 := Aside0.mk (And.intro F3.out.1 (And.intro (Kd.C_below F3.out.2.1 h5) F3.out.2.2))
      have F4 := Aside0.mk (And.intro hn4 (And.intro hC4 hc4))
      have HB := Aside0.mk (HB.out.trans (h5.mono HB.out.size))
      clear hn4 hC4 hc4 h5
      go_wp2_with fail
      refine (same_c F3.out.1 F3.out.2.1 F3.out.2.2 F4.out.1 F4.out.2.1 F4.out.2.2 S1.out).mono ?_
      rintro e w6 ⟨rfl, h6⟩
      have F3 := Aside0.mk (And.intro F3.out.1 (And.intro (Kd.C_below F3.out.2.1 h6) F3.out.2.2))
      have HB := Aside0.mk (HB.out.trans (h6.mono HB.out.size))
      clear h6 F4
      go_wp2_with fail
      have h7 := (Below.refl _ w6).alloc (Nat.le_refl _) (.cells #[.int .i64 32, .int .i64 32] 42)
      have F5 := Aside0.mk (c_one w6)
      have F3 := Aside0.mk (And.intro F3.out.1 (And.intro (Kd.C_below F3.out.2.1 h7) F3.out.2.2))
      have HB := Aside0.mk (HB.out.trans (h7.mono HB.out.size))
      clear h7
      refine (union_c F3.out.1 F3.out.2.1 F3.out.2.2 rfl F5.out (Nat.le_refl _) U2.out).mono ?_
      rintro e w8 ⟨A6, n6, c6, hn6, rfl, hC6, hc6, h8⟩
      have F6 := Aside0.mk (And.intro hn6 (And.intro hC6 hc6))
      have HB := Aside0.mk (HB.out.trans (h8.mono HB.out.size))
      clear hn6 hC6 hc6 h8 F3 F5
      go_wp2_with fail
      refine (ER.out w8).mono ?_
      rintro e w9 ⟨A7, n7, c7, hn7, rfl, hC7, hc7, h9⟩
      have F6 := Aside0.mk (And.intro F6.out.1 (And.intro (Kd.C_below F6.out.2.1 h9) F6.out.2.2))
      have F7 := Aside0.mk (And.intro hn7 (And.intro hC7 hc7))
      have HB := Aside0.mk (HB.out.trans (h9.mono HB.out.size))
      clear hn7 hC7 hc7 h9
      go_wp2_with fail
      refine (same_c F6.out.1 F6.out.2.1 F6.out.2.2 F7.out.1 F7.out.2.1 F7.out.2.2 S2.out).mono ?_
      rintro e w10 ⟨rfl, h10⟩
      have HB := Aside0.mk (HB.out.trans (h10.mono HB.out.size))
      clear h10 F6 F7
      go_wp2_with fail
      refine (EC.out w10).mono ?_
      rintro e w11 ⟨A8, n8, c8, hn8, rfl, hC8, hc8, h11⟩
      have F8 := Aside0.mk (And.intro hn8 (And.intro hC8 hc8))
      have HB := Aside0.mk (HB.out.trans (h11.mono HB.out.size))
      clear hn8 hC8 hc8 h11
      go_wp2_with fail
      refine (ER.out w11).mono ?_
      rintro e w12 ⟨A9, n9, c9, hn9, rfl, hC9, hc9, h12⟩
      have F8 := Aside0.mk (And.intro F8.out.1 (And.intro (Kd.C_below F8.out.2.1 h12) F8.out.2.2))
      have F9 := Aside0.mk (And.intro hn9 (And.intro hC9 hc9))
      have HB := Aside0.mk (HB.out.trans (h12.mono HB.out.size))
      clear hn9 hC9 hc9 h12
      go_wp2_with fail
      refine (both_c F8.out.1 F8.out.2.1 F8.out.2.2 F9.out.1 F9.out.2.1 F9.out.2.2 U3.out).mono ?_
      rintro e w13 ⟨A10, n10, c10, hn10, rfl, hC10, hc10, h13⟩
      have HB := Aside0.mk (HB.out.trans (h13.mono HB.out.size))
      obtain rfl : n10 = 0 := hn10
      clear hC10 hc10 h13 F8 F9
      go_wp2_with fail
      go_ret
      exact ⟨rfl, HB.out⟩

end Go.Proofs.YtnpkfncccddlmaaDoor.Pure
