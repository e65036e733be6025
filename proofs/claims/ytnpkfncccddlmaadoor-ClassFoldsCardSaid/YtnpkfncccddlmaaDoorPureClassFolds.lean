/- ClassFolds: the families of letters; no condition. -/
import Derived.Test.YtnpkfncccddlmaaDoorHClassFoldsx6
namespace Go.Proofs.YtnpkfncccddlmaaDoor.Pure
open Go.RowKit Go.Proofs.YtnpkfncccddlmaaDoor.HClassFolds Go.Proofs.YtnpkfncccddlmaaDoorW.PrintWords Go.Proofs.YtnpkfncccddlmaaDoorW.PrintLast
open Go.Proofs.YtnpkfncccddlmaaDoorX

theorem ev_step {α : Type} {g : Nat → Option α} {r : α} (f : Nat → Option α) (h : ∀ k, g (k + 1) = f k) (k : Ev f r) : Ev g r := Ev.step h k
theorem ev_from {α : Type} {g : Nat → Option α} {r : α} (K : Nat) (h : ∀ k, K ≤ k → g k = some r) : Ev g r := ⟨K, h⟩
theorem not_l0 (s : List (Int × Int)) (hs : ∀ x ∈ s, 0 ≤ x.1 ∧ x.1 ≤ x.2 ∧ x.2 ≤ 1114111) (hn : s.length ≤ 900000) (d : Nat) : ∀ (i : Nat) (p : List (Int × Int)) (f : Int), i ≤ s.length → s.length - i = d → p.length + d ≤ 900000 → 0 ≤ f → f ≤ 1114112 →
    Ev (fun k => ranges_Not.l0 k (p.map toRg) f (s.map toRg) (s.length : Int) i) ((p ++ notG f (s.drop i)).map toRg) := by
  induction d with
  | zero =>
    intro i p f hi hd hp h0 h1
    have e : i = s.length := by omega
    subst e
    refine Ev.step (fun k => ?_) (Ev.now _)
    simp only [ranges_Not.l0]
    rw [if_neg (by omega), List.drop_of_length_le (Nat.le_refl _)]
    by_cases hf : f ≤ 1114111
    · rw [if_pos hf, if_pos (by simp; omega), notG, if_pos hf]
      simp [toRg]
    · rw [if_neg hf, notG, if_neg hf, List.append_nil]
  | succ d ih =>
    intro i p f hi hd hp h0 h1
    have hlt : i < s.length := by omega
    have hx := hs _ (List.getElem_mem hlt)
    have hstep : ∀ k, ranges_Not.l0 (k + 1) (p.map toRg) f (s.map toRg) (s.length : Int) i = if s[i].1 > f then ranges_Not.l0 k ((p ++ [(f, s[i].1 - 1)]).map toRg) (s[i].2 + 1) (s.map toRg) (s.length : Int) ((i + 1 : Nat) : Int) else ranges_Not.l0 k (p.map toRg) (s[i].2 + 1) (s.map toRg) (s.length : Int) ((i + 1 : Nat) : Int) := by
      intro k
      simp only [ranges_Not.l0]
      rw [if_pos (by omega), if_pos (by omega), if_pos (by simp; omega), rd_rg s i hlt]
      rw [show (toRg s[i]).f0 = s[i].1 from rfl, show (toRg s[i]).f1 = s[i].2 from rfl, wrap_rg (x := s[i].1 - 1) (by omega) (by omega), wrap_rg (x := s[i].2 + 1) (by omega) (by omega), wrap_rg (x := (i : Int) + 1) (by omega) (by omega), show (i : Int) + 1 = ((i + 1 : Nat) : Int) by omega]
      rw [if_pos (c := (List.map toRg p).length < 8796093022208) (by simp; omega)]
      simp [toRg]
    rw [List.drop_eq_getElem_cons hlt, notG]
    by_cases h : s[i].1 > f
    · rw [if_pos h]
      have := ih (i + 1) (p ++ [(f, s[i].1 - 1)]) (s[i].2 + 1) (by omega) (by omega) (by simp; omega) (by omega) (by omega)
      rw [List.append_assoc] at this
      exact Ev.step (fun k => by rw [hstep k, if_pos h]) this
    · rw [if_neg h]
      exact Ev.step (fun k => by rw [hstep k, if_neg h]) (ih (i + 1) p (s[i].2 + 1) (by omega) (by omega) (by omega) (by omega) (by omega))
theorem not_ev (l : List S42) (hn : l.length ≤ 900000) : Ev (fun k => ranges_Not.f k l) ((notL (l.map ofRg)).map toRg) := by
  have hl := normL_len (l.map ofRg)
  rw [List.length_map] at hl
  have hN := normL_nrm (l.map ofRg)
  have := not_l0 (normL (l.map ofRg)) (fun x hx => hN.inr x hx) (by omega) _ 0 [] 0 (Nat.zero_le _) rfl (by simp; omega) (by omega) (by omega)
  unfold ranges_Not.f
  refine Ev.bind (norm_ev l hn) ?_
  simpa [notL] using this
theorem same_l0 (s : List S42) (hn : s.length ≤ 2000000) (d : Nat) : ∀ i : Nat, i ≤ s.length → s.length - i = d → Ev (fun k => burinbook_SameRanges.l0 k s s true i) true := by
  induction d with
  | zero =>
    intro i hi hd
    refine Ev.step (fun k => ?_) (Ev.now _)
    simp only [burinbook_SameRanges.l0]
    rw [if_pos trivial, if_neg (by omega)]
  | succ d ih =>
    intro i hi hd
    refine Ev.step (fun k => ?_) (ih (i + 1) (by omega) (by omega))
    simp only [burinbook_SameRanges.l0]
    rw [if_pos trivial, if_pos (by omega), if_pos (by omega), if_pos (by omega), wrap_rg (x := (i : Int) + 1) (by omega) (by omega), show (i : Int) + 1 = ((i + 1 : Nat) : Int) by omega]
    simp
theorem same_ev (s : List S42) (hn : s.length ≤ 2000000) : Ev (fun k => burinbook_SameRanges.f k s s) true := by
  have := same_l0 s hn _ 0 (Nat.zero_le _) rfl
  unfold burinbook_SameRanges.f
  simpa using this
/-- Of a text's first byte. -/
theorem ex01 (c : UInt8) (t : List UInt8) : ((ByteArray.mk ⟨c :: t⟩).extract 0 1).toList = [c] := by
  rw [ByteArray.toList_eq, ByteArray.data_extract]
  simp
theorem ex1n (c : UInt8) (t : List UInt8) : (ByteArray.mk ⟨c :: t⟩).extract 1 (t.length + 1) = ⟨⟨t⟩⟩ := by
  apply ByteArray.ext
  rw [ByteArray.data_extract]
  simp
theorem sz_cons (c : UInt8) (t : List UInt8) : (ByteArray.mk ⟨c :: t⟩).size = t.length + 1 := by
  simp [ByteArray.size]
theorem caret_app (s : ByteArray) : (⟨#[94]⟩ : ByteArray) ++ s = ⟨⟨94 :: s.data.toList⟩⟩ := by
  apply ByteArray.ext
  rw [ByteArray.data_append]
  apply Array.ext'
  simp
theorem prefix_cons (c : UInt8) (t : List UInt8) : stringslite_HasPrefix.f ⟨⟨c :: t⟩⟩ (⟨#[94]⟩ : ByteArray) = some (c == 94) := by
  unfold stringslite_HasPrefix.f
  have h1 : (⟨#[94]⟩ : ByteArray).size = 1 := rfl
  have h2 : (⟨#[94]⟩ : ByteArray).toList = [94] := by rw [ByteArray.toList_eq]
  rw [sz_cons, h1, if_pos (by omega), if_pos (by omega), if_pos (by omega), h2, show (((1 : Nat) : Int)).toNat = 1 from rfl, ex01]
  simp
theorem cut_cons (c : UInt8) (t : List UInt8) : strings_CutPrefix.f ⟨⟨c :: t⟩⟩ (⟨#[94]⟩ : ByteArray) = some (if c = 94 then ((⟨⟨t⟩⟩ : ByteArray), true) else (⟨⟨c :: t⟩⟩, false)) := by
  unfold strings_CutPrefix.f stringslite_CutPrefix.f
  rw [prefix_cons, Option.bind_some]
  have h1 : (⟨#[94]⟩ : ByteArray).size = 1 := rfl
  by_cases h : c = 94
  · rw [if_pos (by simpa using h), h1, if_pos (by omega), sz_cons, if_pos (by omega), show (((1 : Nat) : Int)).toNat = 1 from rfl, ex1n, if_pos h]
    rfl
  · rw [if_neg (by simpa using h), if_neg h]
    rfl
theorem cut_nil : strings_CutPrefix.f ⟨⟨[]⟩⟩ (⟨#[94]⟩ : ByteArray) = some ((⟨⟨[]⟩⟩ : ByteArray), false) := by
  unfold strings_CutPrefix.f stringslite_CutPrefix.f stringslite_HasPrefix.f
  rw [if_neg (by decide)]
  rfl
/-- Whether a text begins with the sign for what a set lacks. -/
def caret (s : ByteArray) : Bool := s.data.toList.head? == some 94
theorem cut_plain {s : ByteArray} (h : caret s = false) : strings_CutPrefix.f s (⟨#[94]⟩ : ByteArray) = some (s, false) := by
  obtain ⟨⟨l⟩⟩ := s
  cases l with
  | nil => exact cut_nil
  | cons c t =>
    rw [cut_cons, if_neg]
    intro e
    subst e
    simp [caret] at h
theorem cut_caret (s : ByteArray) : strings_CutPrefix.f ((⟨#[94]⟩ : ByteArray) ++ s) (⟨#[94]⟩ : ByteArray) = some (s, true) := by
  rw [caret_app, cut_cons, if_pos rfl]
theorem splitB_small (sep : ByteArray) (k : Nat) : ∀ s : ByteArray, ∀ x ∈ Lib.splitB sep 0 k s, x.size ≤ s.size := by
  induction k with
  | zero =>
    intro s x hx
    obtain rfl : x = s := by simpa [Lib.splitB] using hx
    exact Nat.le_refl _
  | succ k ih =>
    intro s x hx
    unfold Lib.splitB at hx
    split at hx
    · obtain rfl : x = s := by simpa using hx
      exact Nat.le_refl _
    · rcases List.mem_cons.1 hx with rfl | hx
      · rw [ByteArray.size_extract]; omega
      · have := ih _ x hx
        rw [ByteArray.size_extract] at this
        omega
theorem split_small {s : ByteArray} (h : s.size ≤ 990) : SmallPieces s ∧ splitN s ≤ 1000 := by
  have hle := Lib.countB_le ⟨#[32]⟩ (by decide) s.size s (Nat.le_refl _)
  refine ⟨⟨by omega, fun x hx => ?_⟩, by unfold splitN; omega⟩
  have := splitB_small ⟨#[32]⟩ _ s x hx
  omega
/-- A table of names: short ones, of which none begins with that sign. -/
def tabOk (l : List S56) : Bool := decide (0 < l.length) && l.all fun x => decide (x.f1.size ≤ 990) && !caret x.f0
theorem tab_good {l : List S56} (h : tabOk l = true) : goodNm (l.map ofNm) = true ∧ ∀ x ∈ l.map ofNm, caret x.1 = false := by
  unfold tabOk at h
  simp only [Bool.and_eq_true, decide_eq_true_eq, List.all_eq_true, Bool.not_eq_true'] at h
  refine ⟨?_, fun x hx => ?_⟩
  · unfold goodNm
    simp only [Bool.and_eq_true, decide_eq_true_eq, List.all_eq_true, List.length_map]
    refine ⟨h.1, fun x hx => ?_⟩
    obtain ⟨y, hy, rfl⟩ := List.mem_map.1 hx
    obtain ⟨h1, h2⟩ := split_small (s := (ofNm y).2) (h.2 y hy).1
    exact ⟨⟨h1.1, h1.2⟩, h2⟩
  · obtain ⟨y, hy, rfl⟩ := List.mem_map.1 hx
    exact (h.2 y hy).2
theorem find_ok {l : List S56} (h : tabOk l = true) (s : ByteArray) : class_find.f l s = some ((findV normL (l.map ofNm) s).1.map toRg, (findV normL (l.map ofNm) s).2) := by
  unfold class_find.f
  rw [if_pos (tab_good h).1]
theorem find_fact {l : List S56} (h : tabOk l = true) (s : ByteArray) : Nrm (findV normL (l.map ofNm) s).1 ∧ (findV normL (l.map ofNm) s).1.length ≤ 900000 ∧ ((findV normL (l.map ofNm) s).2 = 0 ∨ findV normL (l.map ofNm) s = ([], 70)) := by
  obtain ⟨_, hg⟩ := good_nm (tab_good h).1
  unfold findV
  cases hf : (l.map ofNm).find? (isNm s) with
  | none => exact ⟨Nrm.nil, by simp, Or.inr rfl⟩
  | some x => exact ⟨normL_nrm _, Nat.le_trans (normL_len _) (hg x (List.mem_of_find?_eq_some hf)).2.2, Or.inl rfl⟩
theorem find_caret {l : List S56} (h : tabOk l = true) {s : ByteArray} (hs : caret s = true) : findV normL (l.map ofNm) s = ([], 70) := by
  unfold findV
  rw [List.find?_eq_none.2]
  intro x hx e
  have := (tab_good h).2 x hx
  unfold isNm at e
  rw [beq_iff_eq, ByteArray.toList_eq, ByteArray.toList_eq] at e
  unfold caret at this hs
  rw [e, hs] at this
  cases this
/-- What a name stands for with the sign ahead. -/
def lackV (l : List S56) (s : ByteArray) : List (Int × Int) × Int := if (findV normL (l.map ofNm) s).2 = 0 then (notL (findV normL (l.map ofNm) s).1, 0) else ([], 70)
theorem turned_plain {l : List S56} (h : tabOk l = true) {s : ByteArray} (hs : caret s = false) : Ev (fun k => class_turned.f k l s) ((findV normL (l.map ofNm) s).1.map toRg, (findV normL (l.map ofNm) s).2) := by
  refine ev_from 0 fun k _ => ?_
  unfold class_turned.f
  rw [cut_plain hs, Option.bind_some, find_ok h, Option.bind_some]
  dsimp only
  split <;> rfl
theorem turned_caret {l : List S56} (h : tabOk l = true) (s : ByteArray) : Ev (fun k => class_turned.f k l ((⟨#[94]⟩ : ByteArray) ++ s)) ((lackV l s).1.map toRg, (lackV l s).2) := by
  obtain ⟨hN, hl, h2⟩ := find_fact h s
  obtain ⟨K, hK⟩ := not_ev ((findV normL (l.map ofNm) s).1.map toRg) (by rw [List.length_map]; exact hl)
  refine ev_from K fun k hk => ?_
  unfold class_turned.f
  rw [cut_caret, Option.bind_some, find_ok h, Option.bind_some]
  dsimp only
  unfold lackV
  rcases h2 with h2 | h2
  · have hK' : ranges_Not.f k _ = _ := hK k hk
    rw [if_pos h2, if_pos h2, if_pos rfl, hK', Option.bind_some, map_forth, h2]
  · rw [h2]
    rfl
/-- Up to a byte, and what stands behind it. -/
def cutL (c : UInt8) : List UInt8 → List UInt8 × Option (List UInt8)
  | [] => ([], none)
  | b :: t => if b = c then ([], some t) else ((b :: (cutL c t).1), (cutL c t).2)
theorem cutL_spec (c : UInt8) : ∀ s : List UInt8, (Lib.indexByte s c = -1 ∧ cutL c s = (s, none)) ∨ ∃ i : Nat, Lib.indexByte s c = i ∧ cutL c s = (s.take i, some (s.drop (i + 1)))
  | [] => .inl ⟨rfl, rfl⟩
  | b :: t => by
    unfold Lib.indexByte cutL
    by_cases h : b = c
    · refine .inr ⟨0, ?_, ?_⟩
      · rw [if_pos (by simpa using h)]; rfl
      · rw [if_pos h]; rfl
    · rw [if_neg (by simpa using h), if_neg h]
      rcases cutL_spec c t with ⟨h1, h2⟩ | ⟨i, h1, h2⟩
      · refine .inl ⟨by rw [h1]; rfl, by rw [h2]⟩
      · refine .inr ⟨i + 1, ?_, by rw [h2]; rfl⟩
        rw [h1, if_neg (by rw [beq_iff_eq]; omega)]
        omega
/-- The pieces between blanks. -/
def splF : Nat → List UInt8 → List (List UInt8)
  | 0, s => [s]
  | k + 1, s => match (cutL 32 s).2 with
    | none => [(cutL 32 s).1]
    | some t => (cutL 32 s).1 :: splF k t
def cntF : Nat → List UInt8 → Nat
  | 0, _ => 0
  | k + 1, s => match (cutL 32 s).2 with
    | none => 0
    | some t => 1 + cntF k t
theorem splF_eq : ∀ (k : Nat) (s : List UInt8), Lib.splitK [32] 0 k s = splF k s
  | 0, s => rfl
  | k + 1, s => by
    unfold Lib.splitK splF
    rw [Lib.index_one]
    rcases cutL_spec 32 s with ⟨h1, h2⟩ | ⟨i, h1, h2⟩
    · rw [h1, h2]; rfl
    · rw [h1, h2, if_neg (by rw [beq_iff_eq]; omega)]
      have e : ((i : Int)).toNat = i := rfl
      show s.take (i + 0) :: Lib.splitK [32] 0 k (s.drop (i + 1)) = s.take i :: splF k (s.drop (i + 1))
      rw [splF_eq k, Nat.add_zero]
theorem cntF_eq : ∀ (k : Nat) (s : List UInt8), Lib.countFrom [32] k s = cntF k s
  | 0, s => rfl
  | k + 1, s => by
    unfold Lib.countFrom cntF
    rw [Lib.index_one]
    rcases cutL_spec 32 s with ⟨h1, h2⟩ | ⟨i, h1, h2⟩
    · rw [h1, h2]; rfl
    · rw [h1, h2, if_neg (by rw [beq_iff_eq]; omega)]
      show 1 + Lib.countFrom [32] k (s.drop (i + 1)) = 1 + cntF k (s.drop (i + 1))
      rw [cntF_eq k]
def numL (l : List UInt8) : Int := l.foldl numStep 0
def pieceL (l : List UInt8) : Int × Int := match (cutL 45 l).2 with
  | none => (numL (cutL 45 l).1, numL (cutL 45 l).1)
  | some b => (numL (cutL 45 l).1, numL b)
theorem pieceV_eq (s : ByteArray) : pieceV s = pieceL s.data.toList := by
  unfold pieceV cutV pieceL numV
  rcases cutL_spec 45 s.data.toList with ⟨h1, h2⟩ | ⟨i, h1, h2⟩
  · rw [h1, h2, if_neg (by decide)]
    rfl
  · rw [h1, h2, if_pos (by omega)]
    have e : ((i : Int)).toNat = i := rfl
    dsimp only
    rw [if_pos rfl, e, Lib.extract_from_zero]
    unfold numL
    congr 2
    rw [ByteArray.data_extract]
    simp only [Array.toList_extract, List.extract_eq_take_drop]
    rw [List.take_of_length_le]
    rw [List.length_drop]
    exact Nat.le_of_eq rfl
def piecesL (s : List UInt8) : List (Int × Int) := (splF (cntF (s.length + 1) s) s).map pieceL
theorem piecesV_eq (s : ByteArray) : piecesV s = piecesL s.data.toList := by
  unfold piecesV piecesL splitV
  have h1 : Lib.countB s ⟨#[32]⟩ = cntF (s.data.toList.length + 1) s.data.toList := cntF_eq _ _
  have h2 := Lib.splitB_data ⟨#[32]⟩ 0 (Lib.countB s ⟨#[32]⟩) s
  rw [show (⟨#[32]⟩ : ByteArray).data.toList = [32] from rfl, splF_eq, h1] at h2
  rw [← h2, List.map_map, h1]
  exact List.map_congr_left fun x _ => pieceV_eq x
/-- A table looked up. -/
def look {β : Type} : List (List UInt8 × β) → List UInt8 → Option β
  | [], _ => none
  | x :: t, nm => if nm = x.1 then some x.2 else look t nm
theorem look_map {β γ : Type} (g : β → γ) (nm : List UInt8) : ∀ l : List (List UInt8 × β), look (l.map fun x => (x.1, g x.2)) nm = (look l nm).map g
  | [] => rfl
  | x :: t => by
    rw [List.map_cons]
    unfold look
    by_cases h : nm = x.1
    · rw [if_pos h, if_pos h]; rfl
    · rw [if_neg h, if_neg h]; exact look_map g nm t
theorem look_mem {β : Type} {nm : List UInt8} {v : β} : ∀ {l : List (List UInt8 × β)}, look l nm = some v → ∃ x ∈ l, x.2 = v
  | [], h => by cases h
  | x :: t, h => by
    unfold look at h
    by_cases e : nm = x.1
    · rw [if_pos e] at h; exact ⟨x, List.mem_cons_self, Option.some.inj h⟩
    · rw [if_neg e] at h
      obtain ⟨y, hy, hv⟩ := look_mem h
      exact ⟨y, List.mem_cons_of_mem _ hy, hv⟩
def tabL (l : List S56) : List (List UInt8 × List (Int × Int)) := l.map fun x => (x.f0.data.toList, piecesL x.f1.data.toList)
def ansV : Option (List (Int × Int)) → List (Int × Int) × Int
  | none => ([], 70)
  | some p => (normL p, 0)
theorem find_look (s : ByteArray) : ∀ l : List S56, findV normL (l.map ofNm) s = ansV (look (tabL l) s.toList)
  | [] => rfl
  | x :: t => by
    have ih := find_look s t
    unfold findV at ih ⊢
    rw [List.map_cons, List.find?_cons]
    show _ = ansV (look ((x.f0.data.toList, piecesL x.f1.data.toList) :: tabL t) s.toList)
    unfold look isNm
    by_cases h : s.toList = x.f0.data.toList
    · rw [if_pos h]
      have : ((ofNm x).1.toList == s.toList) = true := by rw [h, beq_iff_eq, ByteArray.toList_eq]; rfl
      rw [this]
      show (normL (piecesV x.f1), (0 : Int)) = _
      rw [piecesV_eq]
      rfl
    · rw [if_neg h]
      have : ((ofNm x).1.toList == s.toList) = false := by
        rw [beq_eq_false_iff_ne]
        intro e
        exact h (e.symm.trans (ByteArray.toList_eq _))
      rw [this]
      exact ih
def ins (x : Int) : List Int → List Int
  | [] => [x]
  | y :: t => if x ≤ y then x :: y :: t else y :: ins x t
def isort : List Int → List Int
  | [] => []
  | x :: t => ins x (isort t)
theorem ins_perm (x : Int) : ∀ l, (ins x l).Perm (x :: l)
  | [] => List.Perm.refl _
  | y :: t => by
    unfold ins
    split
    · exact List.Perm.refl _
    · exact ((ins_perm x t).cons y).trans (List.Perm.swap x y t)
theorem isort_perm : ∀ l, (isort l).Perm l
  | [] => List.Perm.refl _
  | x :: t => (ins_perm x _).trans ((isort_perm t).cons x)
theorem ins_sorted (x : Int) : ∀ l : List Int, l.Pairwise (· ≤ ·) → (ins x l).Pairwise (· ≤ ·)
  | [], _ => by simp [ins]
  | y :: t, h => by
    unfold ins
    rw [List.pairwise_cons] at h
    split
    · rename_i hxy
      rw [List.pairwise_cons, List.pairwise_cons]
      refine ⟨fun a ha => ?_, h⟩
      rcases List.mem_cons.1 ha with rfl | ha
      · exact hxy
      · have := h.1 a ha; omega
    · rename_i hxy
      rw [List.pairwise_cons]
      refine ⟨fun a ha => ?_, ins_sorted x t h.2⟩
      rcases List.mem_cons.1 ((ins_perm x t).mem_iff.1 ha) with rfl | ha
      · omega
      · exact h.1 a ha
theorem isort_sorted : ∀ l, (isort l).Pairwise (· ≤ ·)
  | [] => List.Pairwise.nil
  | x :: t => ins_sorted x _ (isort_sorted t)
theorem merge_isort (l : List Int) : (l.mergeSort fun x y => decide (x ≤ y)) = isort l := by
  refine List.Perm.eq_of_pairwise (le := fun a b : Int => a ≤ b) (fun a b _ _ h1 h2 => by omega) ?_ (isort_sorted l) ((List.mergeSort_perm l _).trans (isort_perm l).symm)
  have := List.pairwise_mergeSort (le := fun x y : Int => decide (x ≤ y)) (fun a b c h1 h2 => by simp at *; omega) (fun a b => by simp; omega) l
  exact this.imp (fun h => by simpa using h)
def insP (x : Int × Int) : List (Int × Int) → List (Int × Int)
  | [] => [x]
  | y :: t => if x.1 ≤ y.1 then x :: y :: t else y :: insP x t
def isortP : List (Int × Int) → List (Int × Int)
  | [] => []
  | x :: t => insP x (isortP t)
theorem insP_perm (x : Int × Int) : ∀ l, (insP x l).Perm (x :: l)
  | [] => List.Perm.refl _
  | y :: t => by
    unfold insP
    split
    · exact List.Perm.refl _
    · exact ((insP_perm x t).cons y).trans (List.Perm.swap x y t)
theorem isortP_perm : ∀ l, (isortP l).Perm l
  | [] => List.Perm.refl _
  | x :: t => (insP_perm x _).trans ((isortP_perm t).cons x)
theorem insP_sorted (x : Int × Int) : ∀ l : List (Int × Int), l.Pairwise (fun x y => x.1 ≤ y.1) → (insP x l).Pairwise (fun x y => x.1 ≤ y.1)
  | [], _ => by simp [insP]
  | y :: t, h => by
    unfold insP
    rw [List.pairwise_cons] at h
    split
    · rename_i hxy
      rw [List.pairwise_cons, List.pairwise_cons]
      refine ⟨fun a ha => ?_, h⟩
      rcases List.mem_cons.1 ha with rfl | ha
      · exact hxy
      · have := h.1 a ha; omega
    · rename_i hxy
      rw [List.pairwise_cons]
      refine ⟨fun a ha => ?_, insP_sorted x t h.2⟩
      rcases List.mem_cons.1 ((insP_perm x t).mem_iff.1 ha) with rfl | ha
      · omega
      · exact h.1 a ha
theorem isortP_sorted : ∀ l, (isortP l).Pairwise (fun x y => x.1 ≤ y.1)
  | [] => List.Pairwise.nil
  | x :: t => insP_sorted x _ (isortP_sorted t)
theorem normL_by {l S : List (Int × Int)} (hm : S.Perm (l.flatMap clip)) (hs : S.Pairwise (fun x y => x.1 ≤ y.1)) : normL l = mergeL S := by
  have h : Nrm (mergeL S) ∧ ∀ r, inL (mergeL S) r = hasL l r := by
    have hr : ∀ x ∈ S, 0 ≤ x.1 ∧ x.1 ≤ x.2 ∧ x.2 ≤ 1114111 := fun x hx => clip_range (hm.mem_iff.1 hx)
    have hin : ∀ r, inL S r = hasL l r := fun r => (inL_perm hm r).trans (clip_in l r)
    cases S with
    | nil => exact ⟨Nrm.nil, hin⟩
    | cons x t =>
      have h := go1_all t x (hr x (by simp)) (fun z hz => hr z (by simp [hz])) hs
      exact ⟨h.1, fun r => (h.2.2 r).trans (hin r)⟩
  exact nrm_ext (normL_nrm l) h.1 fun r => (normL_in l r).trans (h.2 r).symm
theorem normL_isort (l : List (Int × Int)) : normL l = mergeL (isortP (l.flatMap clip)) := normL_by (isortP_perm _) (isortP_sorted _)
def addI (l : List (Int × Int)) (c : Int) : List (Int × Int) := if (isort (fam0 (capF c))).any (hasL l) then (isort (fam0 (capF c))).map (fun r => (r, r)) else []
theorem addF_eq (l : List (Int × Int)) (c : Int) : addF l c = addI l c := by
  unfold addF famF addI
  rw [merge_isort]
def closeI (l : List (Int × Int)) : List (Int × Int) := mergeL (isortP ((l ++ (capsB 0 ++ capsO 0).flatMap (addI l)).flatMap clip))
theorem closeL_eq (l : List (Int × Int)) : closeL l = closeI l := by
  unfold closeL
  rw [normL_isort, show addF l = addI l from funext (addF_eq l)]
  rfl
set_option maxRecDepth 100000 in
theorem works_ev : Ev burinlaw04_works.f true := Ev.of burinlaw04_works.mono (k := 40) (by decide +kernel)
theorem colons_ok : ∃ l, class_colons.f = some l ∧ tabOk l = true := ⟨_, rfl, by decide +kernel⟩
theorem props_ok : ∃ l, class_properties.f = some l ∧ tabOk l = true := ⟨_, rfl, by decide +kernel⟩
/-- What a name between colons stands for: looked up in the table. -/
theorem set_ev {s : ByteArray} {p : List (Int × Int)} (h : (!caret s && (class_colons.f.bind fun l => look (tabL l) s.data.toList) == some p) = true) : Ev (fun k => burinlaw04_set.f k s) ((normL p).map toRg) := by
  obtain ⟨l, hl, ht⟩ := colons_ok
  rw [Bool.and_eq_true, Bool.not_eq_true', beq_iff_eq, hl, Option.bind_some] at h
  have g := turned_plain ht h.1
  rw [find_look, ByteArray.toList_eq, h.2] at g
  obtain ⟨K, g⟩ := g
  refine ev_from K fun k hk => ?_
  have q : class_turned.f k l s = _ := g k hk
  unfold burinlaw04_set.f class_Colon.f
  rw [hl, Option.bind_some, q]
  rfl
set_option maxRecDepth 100000 in
theorem close_up : closeI [(65, 90)] = [(65, 90), (97, 122), (383, 383), (8490, 8490)] := by decide +kernel
set_option maxRecDepth 100000 in
theorem close_lo : closeI [(97, 122)] = [(65, 90), (97, 122), (383, 383), (8490, 8490)] := by decide +kernel
theorem norm_up : normL [(65, 90)] = [(65, 90)] := by rw [normL_isort]; decide +kernel
theorem norm_lo : normL [(97, 122)] = [(97, 122)] := by rw [normL_isort]; decide +kernel
theorem norm_al : normL [(65, 90), (97, 122)] = [(65, 90), (97, 122)] := by rw [normL_isort]; decide +kernel
theorem fold_at {p R : List (Int × Int)} (hp : p.length ≤ 1000) (h : closeI p = R) : fold_Close.f (p.map toRg) = some (R.map toRg) := by
  unfold fold_Close.f
  rw [if_pos (by rw [List.length_map]; omega), map_forth, closeL_eq, h]
theorem has_at (p : List (Int × Int)) (r : Int) : ranges_Has.f (p.map toRg) r = some (hasL p r) := by
  show some (hasL ((p.map toRg).map ofRg) r) = _
  rw [map_forth]
theorem has_two (r : Int) : hasL [(65, 90), (97, 122)] r = decide ((65 ≤ r ∧ r ≤ 90) ∨ (97 ≤ r ∧ r ≤ 122)) := by
  unfold hasL
  rw [inL_cons, inL_cons, inL_nil, Bool.eq_iff_iff]
  simp only [Bool.and_eq_true, Bool.or_eq_true, decide_eq_true_eq, Bool.false_eq_true, or_false]
  omega
theorem has_four (r : Int) : hasL [(65, 90), (97, 122), (383, 383), (8490, 8490)] r = decide ((65 ≤ r ∧ r ≤ 90) ∨ (97 ≤ r ∧ r ≤ 122) ∨ r = 383 ∨ r = 8490) := by
  unfold hasL
  rw [inL_cons, inL_cons, inL_cons, inL_cons, inL_nil, Bool.eq_iff_iff]
  simp only [Bool.and_eq_true, Bool.or_eq_true, decide_eq_true_eq, Bool.false_eq_true, or_false]
  omega
theorem ClassFolds : burinlaw04_ClassFolds.Pure := by
  intro r _
  obtain ⟨K0, hw⟩ := works_ev
  obtain ⟨K1, g1⟩ := set_ev (s := ⟨#[117, 112, 112, 101, 114]⟩) (p := [(65, 90)]) (by decide +kernel)
  obtain ⟨K2, g2⟩ := set_ev (s := ⟨#[108, 111, 119, 101, 114]⟩) (p := [(97, 122)]) (by decide +kernel)
  obtain ⟨K3, g3⟩ := set_ev (s := ⟨#[97, 108, 112, 104, 97]⟩) (p := [(65, 90), (97, 122)]) (by decide +kernel)
  obtain ⟨K4, g4⟩ := same_ev (([(65, 90), (97, 122), (383, 383), (8490, 8490)] : List (Int × Int)).map toRg) (by decide)
  let m := K0 + K1 + K2 + K3 + K4
  refine ⟨m, ?_⟩
  have q0 : burinlaw04_works.f m = _ := hw m (by omega)
  have q1 : burinlaw04_set.f m _ = _ := g1 m (by omega)
  have q2 : burinlaw04_set.f m _ = _ := g2 m (by omega)
  have q3 : burinlaw04_set.f m _ = _ := g3 m (by omega)
  have q4 : burinbook_SameRanges.f m _ _ = _ := g4 m (by omega)
  rw [norm_up] at q1
  rw [norm_lo] at q2
  rw [norm_al] at q3
  have f1 := fold_at (by decide) close_up
  have f2 := fold_at (by decide) close_lo
  unfold burinlaw04_ClassFolds.f
  rw [q0, Option.bind_some, if_pos rfl, q1, Option.bind_some, f1, Option.bind_some, q2, Option.bind_some, f2, Option.bind_some, q4, Option.bind_some, if_pos rfl, has_at, Option.bind_some, q3, Option.bind_some, has_at, Option.bind_some, has_two, has_four]
  by_cases h1 : (65 ≤ r ∧ r ≤ 90) ∨ (97 ≤ r ∧ r ≤ 122)
  · rw [decide_eq_true h1, if_pos rfl, decide_eq_true (by omega)]
    rfl
  · rw [decide_eq_false h1, if_neg (by decide)]
    by_cases h2 : r = 8490
    · rw [if_pos h2, decide_eq_true (by omega)]
      rfl
    · rw [if_neg h2]
      by_cases h3 : r = 383
      · rw [decide_eq_true (by omega), h3]
        rfl
      · rw [decide_eq_false (by omega), beq_eq_false_iff_ne.2 h3]
        rfl

end Go.Proofs.YtnpkfncccddlmaaDoor.Pure
