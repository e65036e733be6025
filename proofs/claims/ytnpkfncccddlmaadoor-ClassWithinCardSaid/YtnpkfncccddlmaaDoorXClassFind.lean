import Derived.Test.YtnpkfncccddlmaaDoorXClassPieces
import Derived.Test.YtnpkfncccddlmaaDoorXRangesBase
import Derived.RangeFuncBox
import Derived.Maps.AppendAt
namespace Go.Proofs.YtnpkfncccddlmaaDoorX
open Go.RowKit Go.Shelf Go.Proofs.YtnpkfncccddlmaaDoorW.PrintWords Go.Proofs.YtnpkfncccddlmaaDoorW.PrintLast
set_option linter.unusedVariables false
set_option linter.unusedSimpArgs false
attribute [local go_sem] Oper.semAt_some
abbrev Nm := ByteArray × ByteArray
def kNm : Kd Nm := Kd.pair Kd.string Kd.string
def encNm (x : Nm) : List Value := [.string x.1, .string x.2]
theorem kNm_K {w : World} {x : Nm} {cs : List Value} (h : kNm.K w x cs) : cs = encNm x := by
  obtain ⟨_, _, rfl, rfl, rfl⟩ := h
  rfl
def isNm (name : ByteArray) (x : Nm) : Bool := x.1.toList == name.toList
/-- A row of names: its cells, address and all. -/
theorem nm_cells {w : World} {A : Option Addr} {l : List Nm} (h : Kd.C kNm w A l.length l) (hp : 0 < l.length) :
    ∃ b off, A = some ⟨b, off, none⟩ ∧ b < w.heap.size ∧ l.length ≤ 9223372036854775807 ∧ ∀ j, j < l.length → ∀ i v, (encNm l[j]!)[i]? = some v → w.cell? ⟨b, off + j * 2 + i, none⟩ = some v := by
  obtain ⟨_, hn, hc0⟩ := h
  obtain ⟨ad, rfl, hc⟩ := hc0 hp
  clear hc0
  obtain ⟨b, off, spot⟩ := ad
  have key : ∀ j (hj : j < l.length) i v, (encNm l[j])[i]? = some v → w.cell? ((⟨b, off, spot⟩ : Addr).add (j * 2 + i)) = some v := by
    intro j hj i v hi
    obtain ⟨c, _, hk, hcell⟩ := hc j l[j] (List.getElem?_eq_getElem hj)
    obtain rfl := kNm_K hk
    exact hcell i v hi
  have h0 := key 0 hp 0 _ rfl
  have hs : spot = none := by
    rw [show 0 * 2 + 0 = 0 from rfl] at h0
    simp only [Addr.add, if_true, World.cell?] at h0
    cases spot with
    | none => rfl
    | some q =>
      revert h0
      split
      · simp
      · simp
  subst hs
  have hadd : ∀ n, (⟨b, off, none⟩ : Addr).add n = ⟨b, off + n, none⟩ := fun n => by unfold Addr.add; split <;> simp_all
  refine ⟨b, off, rfl, ?_, hn, fun j hj i v hi => ?_⟩
  · have := World.block_lt_of_cell? w _ h0
    rwa [hadd] at this
  · have := key j hj i v (by rw [getElem!_pos l j hj] at hi; exact hi)
    rwa [hadd, ← Nat.add_assoc] at this
set_option maxHeartbeats 1000000 in
theorem pred_nm (name : ByteArray) (B : Nat) (w : World) (hB : B < w.heap.size) (hcell : w.cell? ⟨B, 0, none⟩ = some (.string name)) :
    PredBelow Tryd.prog 50 #[.pointer (some ⟨B, 0, none⟩)] (fun x => .agg (encNm x).toArray) (isNm name) w := fun W x hb => by
  have hc : W.cell? ⟨B, 0, none⟩ = some (.string name) := (hb.cell (p := ⟨B, 0, none⟩) hB).trans hcell
  have hBW : B < W.heap.size := Nat.lt_of_lt_of_le hB hb.size
  have hne : B ≠ W.heap.size := by omega
  show Calls Tryd.prog 50 #[.agg #[.string x.1, .string x.2], .pointer (some ⟨B, 0, none⟩)] W _
  have HB := Aside0.mk hb
  clear hb
  obtain ⟨a, b⟩ := x
  unfold isNm
  dsimp only
  go_enter Tryd.func50, Tryd.ntmps50
  go_wp2
  go_ret
  exact ⟨rfl, HB.out.alloc HB.out.size _⟩
/-- Where a name stands. -/
def idxNm (l : List Nm) (name : ByteArray) : Int := Lib.idxBy (fun _ y => isNm name y) l default
theorem idx_nm (l : List Nm) (name : ByteArray) : (idxNm l name = -1 ∧ ∀ x ∈ l, isNm name x = false) ∨ ∃ k, ∃ h : k < l.length, idxNm l name = k ∧ isNm name l[k] = true ∧ ∀ j, ∀ hj : j < k, isNm name (l[j]'(by omega)) = false := by
  cases hf : l.findIdx? (isNm name) with
  | none =>
    left
    have hn := List.findIdx?_eq_none_iff.1 hf
    refine ⟨?_, fun x hx => by simpa using hn x hx⟩
    exact Lib.idxByFrom_miss _ _ _ 0 (fun j hj => by rw [getElem!_pos l j hj]; simpa using hn _ (List.getElem_mem hj))
  | some k =>
    right
    obtain ⟨hk, h1, h2⟩ := List.findIdx?_eq_some_iff_getElem.1 hf
    refine ⟨k, hk, ?_, h1, fun j hj => by simpa using h2 j hj⟩
    have := Lib.idxByFrom_hit (fun _ y => isNm name y) default l k 0 hk (by rw [getElem!_pos l k hk]; exact h1) (fun j hj => by rw [getElem!_pos l j (by omega)]; simpa using h2 j hj)
    unfold idxNm Lib.idxBy
    rw [this]
    simp
set_option maxHeartbeats 1000000 in
theorem index_nm (A : Option Addr) (c : Nat) (l : List Nm) (hp : 0 < l.length) (name : ByteArray) (w : World) (B : Nat) (hB : B < w.heap.size) (hcell : w.cell? ⟨B, 0, none⟩ = some (.string name)) (h : Kd.C kNm w A l.length l) :
    Calls Tryd.prog 49 #[.slice A l.length c, .func (.func 50) #[] #[.pointer (some ⟨B, 0, none⟩)]] w fun e w' => e = .returned (.int .i64 (idxNm l name)) ∧ Below w.heap.size w w' := by
  obtain ⟨b, off, rfl, hb, hn, hc⟩ := nm_cells h hp
  have eg : ∀ args w, (callFunc 50 args).run Tryd.prog w = .ok (.enter 50 args) w := enters_of Tryd.func50 (by kernel_rfl) rfl
  have hcon := AnyQ.slices_IndexFunc Tryd.lay_idxFuncNamed 2 Tryd.isAgg56 Tryd.sizeOf56 encNm (fun _ => rfl) (isNm name) 50 #[.pointer (some ⟨B, 0, none⟩)] eg b off l.length c l w (pred_nm name B w hB hcell) (Nat.le_refl _) hn hb hc
  change Calls Tryd.prog 49 _ _ _ at hcon
  rw [List.take_length] at hcon
  exact hcon
theorem pieces_at (s : ByteArray) (w : World) : Calls Tryd.prog 51 #[.string s] w fun e w' => e = .returned (.func (.func 69) #[] #[.pointer (some ⟨w.heap.size, 0, none⟩)]) ∧ w' = w.alloc (.cells #[.string s] 9) := by
  go_enter Tryd.func51, Tryd.ntmps51
  go_wp2
  go_ret
  exact ⟨rfl, rfl⟩
theorem keepStr_b (w : World) : ∀ (W : World) (l : Nat) (o o' : Obj), w.heap.size ≤ l → W.heap[l]? = some o → o.isCells = false → o.isWalk = false → KeepStr W (W.putObj l o') := fun W l o o' _ hl hc _ k cs fr hk => by
  have hne : k ≠ l := fun e => by subst e; rw [hk] at hl; cases hl; cases hc
  rw [World.putObj_heap_other (fun e => hne e)]
  exact hk
theorem pieces_stops (n : Nat) (hn : 1 ≤ n) (Bn : Nat) (s : ByteArray) (hs : SmallPieces s) (hN : splitN s ≤ 1000000) (w : World) (hBn : Bn < w.heap.size) (hc : w.cell? ⟨Bn, 0, none⟩ = some (.string s)) :
    SeqStopsK Fence.wide n Tryd.prog 69 #[.pointer (some ⟨Bn, 0, none⟩)] encRgA KeepStr (fun ys => ys = piecesV s) (fun pre => pre <+: piecesV s) (splitN s) w := fun l J Jx W hW hJ _ hY h0 =>
  pieces1_in n hn l Bn s hs hN J Jx W hJ hY ((hW.cell (p := ⟨Bn, 0, none⟩) hBn).trans hc) h0
theorem keepStr_app {W w1 : World} {n₀ BL k : Nat} {v v' : Value} {xs : List Value} {tmp : Obj} (hv : Boxed W BL 22 v) (hrow : W.ownsRow n₀ 42 2 v k xs) (hgrow : (W.alloc tmp).grownBy w1 v.ownBlock) : KeepStr W (w1.setCell ⟨BL, 0, none⟩ v') := fun j cs fr hj => by
  have hlt : j < W.heap.size := (Array.getElem?_eq_some_iff.1 hj).1
  have hne : j ≠ BL := fun e => by subst e; rw [show W.heap[j]? = _ from hv] at hj; simp at hj
  have hno : some j ≠ v.ownBlock := fun e => by
    rcases hrow.2 with ⟨rfl, _⟩ | ⟨g, cap, cur, rfl, _, hgb, _⟩
    · simp [Value.ownBlock] at e
    · obtain rfl : j = g := by simpa [Value.ownBlock] using e
      rw [hgb] at hj
      simp at hj
  have h1 : (W.alloc tmp).heap[j]? = some (.cells cs 9 fr) := (Below.heap_alloc W tmp j hlt).trans hj
  rw [Below.heap_setCell w1 ⟨BL, 0, none⟩ v' j hne]
  exact (hgrow.block j (by simp; omega) hno).trans h1
theorem boxRg_own {β : Type} (B : Nat) (f : β → Array Value) : Own (fun s W => W.heap[B]? = some (.cells (f s) 42 (0, 0))) := fun s X Y row hs hg hrow => by
  refine (hg.block B (Array.getElem?_eq_some_iff.1 hs).1 (fun e => ?_)).trans hs
  obtain ⟨o, ho, hc⟩ := hrow B e.symm
  rw [hs] at ho
  cases ho
  cases hc
/-- What is found: a set's list, or why there is none. -/
def findV (nf : List (Int × Int) → List (Int × Int)) (l : List Nm) (name : ByteArray) : List (Int × Int) × Int := match l.find? (isNm name) with
  | none => ([], 70)
  | some x => (nf (piecesV x.2), 0)
def FindPost (nf : List (Int × Int) → List (Int × Int)) (l : List Nm) (name : ByteArray) (w : World) (e : Ending) (w' : World) : Prop := ∃ v, e = .returned (.tuple #[v, .int .i64 (findV nf l name).2]) ∧ Kd.R kRg 42 w' w.heap.size (fun _ => True) v (findV nf l name).1 ∧ Below w.heap.size w w'
set_option maxRecDepth 100000 in
set_option maxHeartbeats 4000000 in
theorem find_any {nf : List (Int × Int) → List (Int × Int)} {P : List (Int × Int) → Prop} (hN : NormAt nf P) (A : Option Addr) (c : Nat) (l : List Nm) (name : ByteArray) (w : World) (hC : Kd.C kNm w A l.length l) (hc : l.length ≤ c) (hp : 0 < l.length)
    (hg : ∀ x ∈ l, SmallPieces x.2 ∧ splitN x.2 ≤ 1000 ∧ P (piecesV x.2)) : Calls Tryd.prog 25 #[.slice A l.length c, .string name] w (FindPost nf l name w) := by
  refine (callsIn_wide (n := 9)).1 ?_
  have hal := (Below.refl _ w).alloc (Nat.le_refl _) (.cells #[.string name] 9)
  have HIX := Aside0.mk (callsIn_wide (n := 8).2 (index_nm A c l hp name (w.alloc (.cells #[.string name] 9)) w.heap.size (by simp) ((blk_cell (heap_alloc_new w (.cells #[.string name] 9)) 0).trans rfl) (Kd.C_below hC hal)))
  have HPO := Aside0.mk (show ∀ e w', FindPost nf l name w e w' = (∃ v, e = .returned (.tuple #[v, .int .i64 (findV nf l name).2]) ∧ Kd.R kRg 42 w' w.heap.size (fun _ => True) v (findV nf l name).1 ∧ Below w.heap.size w w') from fun _ _ => rfl)
  have HX := Aside0.mk (idx_nm l name)
  generalize idxNm l name = ix at HIX HX
  have HAL := Aside0.mk hal
  clear hal
  refine callsIn_of_wp_marks Tryd.func25 rfl trivial ?_ rfl
  simp only [Tryd.ntmps25, List.size_toArray, List.length_cons, List.length_nil, Nat.reduceAdd, Nat.reduceSub, Array.replicate_succ, Array.replicate_zero, List.push_toArray, List.append_toArray, List.nil_append, List.cons_append]
  gi_wp2_with fail
  refine ⟨trivial, HIX.out.mono ?_⟩
  rintro e w1 ⟨rfl, hb1⟩
  have HB1 := Aside0.mk (HAL.out.trans (hb1.mono (by simp)))
  clear hb1 HIX
  rcases HX.out with ⟨rfl, hno⟩ | ⟨k, hk, rfl, hyes, hbef⟩
  · have hfv : findV nf l name = ([], 70) := by
      unfold findV
      rw [List.find?_eq_none.2 (fun x hx => by rw [hno x hx]; decide)]
    gi_wp2_with fail
    refine ⟨_, results_tmp2 rfl _ _ _, ?_⟩
    rw [HPO.out, hfv]
    exact ⟨_, rfl, Kd.R_nil _ _ _ _ _, HB1.out⟩
  · have hfv : findV nf l name = (nf (piecesV l[k].2), 0) := by
      unfold findV
      rw [List.find?_eq_some_iff_getElem.2 ⟨hyes, k, hk, rfl, fun j hj => by rw [hbef j hj]; rfl⟩]
    have HFV := Aside0.mk hfv
    obtain ⟨b, off, rfl, hb, hn, hcell⟩ := nm_cells (Kd.C_below hC HB1.out) hp
    have hx := hg _ (List.getElem_mem hk)
    have c1 : w1.cell? ⟨b, off + k * 2 + 1, none⟩ = some (.string l[k].2) := hcell k hk 1 _ (by rw [getElem!_pos l k hk]; rfl)
    generalize l[k] = x at hx c1 HFV hyes
    obtain ⟨xn, s⟩ := x
    simp only at hx c1 HFV
    have hbne : b ≠ w1.heap.size := by omega
    have HH := Aside0.mk hx
    have HPC := Aside0.mk (fun (W : World) => callsIn_wide (n := 8).2 (pieces_at s W))
    have HNN := Aside0.mk hN
    have hkl : (k : Int) < (l.length : Int) := by omega
    clear hcell hg hC hx hyes hbef hfv HX HAL hN hp
    generalize l.length = nl at hk hn hc hkl ⊢
    gi_wp2_with fail
    refine ⟨trivial, (HPC.out _).mono ?_⟩
    rintro e w2 ⟨rfl, rfl⟩
    have hL := Boxed.alloc (Boxed.new w1 22 (.slice none 0 0)) (.cells #[.string s] 9)
    have hS := Boxed.new (w1.alloc (.cells #[.slice none 0 0] 22)) 9 (.string s)
    rw [World.size_alloc] at hS
    have hB2 : Below w.heap.size w ((w1.alloc (.cells #[.slice none 0 0] 22)).alloc (.cells #[.string s] 9)) := (HB1.out.alloc HB1.out.size _).alloc (by simp; have := HB1.out.size; omega) _
    have hsz : ((w1.alloc (.cells #[.slice none 0 0] 22)).alloc (.cells #[.string s] 9)).heap.size = w1.heap.size + 2 := by simp
    have hw1 := HB1.out.size
    rw [World.size_alloc]
    generalize (w1.alloc (.cells #[.slice none 0 0] 22)).alloc (.cells #[.string s] 9) = W0 at hL hS hB2 hsz ⊢
    generalize w1.heap.size = BL at hL hS hsz hw1 hbne ⊢
    gi_wp2_with fail
    refine wpIn_rangeFunc_ownH rfl (by omega) (gf := 69) (lb := #[.pointer (some ⟨BL + 1, 0, none⟩)]) rfl trivial (enters_of Tryd.func69 (by kernel_rfl) rfl)
      (pieces_stops 8 (by omega) (BL + 1) s HH.out.1 (by have := HH.out.2.1; omega) W0 (by omega) hS.cell) (fun h k => h.trans k) (keepStr_b W0) (Below.refl _ _) (fun _ => rfl)
      (fun (pre : List (Int × Int)) W => (∃ v, Boxed W BL 22 v ∧ W.ownsRow w.heap.size 42 2 v pre.length (pre.flatMap encRg) ∧ True) ∧ Below w.heap.size w W)
      (fun _ _ _ => False)
      (OwnFrom.and (Own.from (holdsRow_own w.heap.size BL 22 42 2 (fun pre : List (Int × Int) => pre.length) (fun pre => pre.flatMap encRg) (fun _ _ => True)) _) (ownFrom_below (Nat.le_refl _) (by omega)))
      (fun _ _ _ _ _ hs _ _ => hs)
      ⟨⟨_, hL, World.ownsRow_nil _ _ _ _, trivial⟩, hB2⟩
      (fun x a' W => ∃ Bx, W.heap[Bx]? = some (.cells #[.int .i64 x.1, .int .i64 x.2] 42 (0, 0)) ∧ a' = { tmps := #[.slice (some ⟨b, off, none⟩) nl c, .string name, undef, .pointer (some ⟨w.heap.size, 0, none⟩), .slice none 0 0, .int .i64 0, .int .i64 k, .pointer (some ⟨BL, 0, none⟩), .pointer (some ⟨Bx, 0, none⟩), .slice (some ⟨b, off, none⟩) nl c, .func (.func 50) #[] #[.pointer (some ⟨w.heap.size, 0, none⟩)], .int .i64 k, .int .i64 k, .bool (decide ((k : Int) < 0)), .slice (some ⟨b, off, none⟩) nl c, .int .i64 k, .pointer (some ⟨b, off + k * 2, none⟩), .pointer (some ⟨b, off + k * 2 + 1, none⟩), .string s, .func (.func 69) #[] #[.pointer (some ⟨BL + 1, 0, none⟩)], .agg #[.int .i64 x.1, .int .i64 x.2], undef, undef, undef, undef, undef, undef], defers := [] })
      (fun x a' _ X Y row hs hg hr => by obtain ⟨Bx, h1, h2⟩ := hs; exact ⟨Bx, boxRg_own Bx (fun (_ : Unit) => #[.int .i64 x.1, .int .i64 x.2]) () X Y row h1 hg (fun r e => (hr r e).2), h2⟩)
      ?assign ?body ?done ?stop
    case assign =>
      rintro l pre x W K ⟨⟨v, hv, hrow, _⟩, hB⟩ hK
      gi_wp2
      exact hK _ _ ((KeepsOthers.alloc _ _).from _) (KeepStr.of_below ((Below.refl _ W).alloc (Nat.le_refl _) _)) ⟨⟨v, hv.alloc _, hrow.alloc _, trivial⟩, hB.alloc hB.size _⟩ ⟨W.heap.size, heap_alloc_new W _, rfl⟩
    case body =>
      rintro l pre x a' W hl _ ⟨⟨v, hv, hrow, _⟩, hB⟩ ⟨Bx, hx, rfl⟩ hlt
      have hcv := hv.cell
      have z0 := (blk_cell hx 0).trans rfl
      have z1 := (blk_cell hx 1).trans rfl
      obtain ⟨i0, hi, hz0, hz1, hz2⟩ := info_parts info_rg
      have hpl : pre.length ≤ 1000 := by have := HH.out.2.1; omega
      have hnw : ∀ j u, ([Value.int .i64 x.1, .int .i64 x.2] : List Value)[j]? = some u → (W.alloc (.cells #[.int .i64 x.1, .int .i64 x.2] 42)).cell? ((⟨W.heap.size, 0, none⟩ : Addr).add j) = some u := by
        have := World.news_of_block (cs := ([Value.int .i64 x.1, .int .i64 x.2] : List Value).toArray) (t := 42) (fr := (0, 0)) (heap_alloc_new W (.cells ([Value.int .i64 x.1, .int .i64 x.2] : List Value).toArray 42))
        simpa using this
      gi_wp2_with (gi_at_builtin; refine wpListIn_append_own _ rfl _ _ 22 rfl w.heap.size 42 i0 (.agg #[(.int .i64 0), (.int .i64 0)]) 2 16 Tryd.underlying22 hi hz0 hz1 hz2 rfl (by decide) _ _ _ rfl (hrow.alloc _) ⟨W.heap.size, 0, none⟩ 1 1 [.int .i64 x.1, .int .i64 x.2] rfl rfl hnw (by simp [Value.oneCell']) (by unfold maxLen; omega) (by omega) (by have := hB.size; simp; omega) ?_; intro v' w1' hown' hgrow _; obtain ⟨g', cap', rfl⟩ := ownsRow_succ hown'; have hks := keepStr_app (v' := .slice (some ⟨g', 0, none⟩) (pre.length + 1) cap') hv hrow hgrow; obtain ⟨hv1, hv2, hr2, hk2, hb2⟩ := hv.appended (by decide) hrow hB.size hw1 hown' hgrow; have hc1 := hv1.cell; have hf1 := hv1.frozen)
      exact ⟨hk2.from _, hks, ⟨_, hv2, by rw [List.length_append, List.flatMap_append]; simpa [encRg] using hr2, trivial⟩, hB.trans hb2⟩
    case done =>
      rintro D ys W hD rfl ⟨⟨v, hv, hrow, _⟩, hB⟩ hK
      have hcv := hv.cell
      have hR : Kd.R kRg 42 W w.heap.size (fun _ => True) v (piecesV s) := (fixed_R kRg_fixed).2 ⟨fun _ _ => trivial, hrow⟩
      obtain ⟨A9, c9, e9⟩ := Kd.R_slice hR
      subst e9
      have HNC := Aside0.mk (callsIn_wide (n := 8).2 (HNN.out A9 c9 (piecesV s) W HH.out.2.2 (Kd.R_reads' hR).2.2 (Kd.R_reads' hR).2.1))
      clear hR
      gi_wp2_with fail
      refine ⟨trivial, HNC.out.mono ?_⟩
      rintro e w5 ⟨v5, rfl, hR5, hb5⟩
      have hK5 : w5.heap[D]? = some (.deferred (some [])) := (hb5.block D (Array.getElem?_eq_some_iff.1 hK).1).trans hK
      gi_wp2_with fail
      refine ⟨by simp, .inl ⟨_, _, rfl, run_takeDeferred hK5, ?_⟩⟩
      refine ⟨_, results_tmp2 rfl _ _ _, ?_⟩
      have hDW := (Array.getElem?_eq_some_iff.1 hK).1
      rw [HPO.out, HFV.out]
      exact ⟨_, rfl, Kd.R_mono (Kd.R_lower (Kd.R_step (Kd.R_bound hR5) (fun j hj _ => World.putObj_heap_other (fun e => by have := hj.2.1; omega))) hB.size) (fun _ _ => trivial), (hB.trans (hb5.mono hB.size)).trans (belowK_b (w := w) (Nat.le_refl _) w5 D _ _ (by omega) hK5 rfl rfl)⟩
    case stop =>
      rintro D c pre W _ _ h _
      exact h.elim
def goodNm (l : List Nm) : Bool := decide (0 < l.length) && l.all fun x => decide (x.2.size ≤ 1000000) && ((splitV x.2).all fun y => decide (y.size ≤ 1000000)) && decide (splitN x.2 ≤ 1000)
theorem good_nm {l : List Nm} (h : goodNm l = true) : 0 < l.length ∧ ∀ x ∈ l, SmallPieces x.2 ∧ splitN x.2 ≤ 1000 ∧ (piecesV x.2).length ≤ 900000 := by
  unfold goodNm at h
  simp only [Bool.and_eq_true, decide_eq_true_eq, List.all_eq_true] at h
  refine ⟨h.1, fun x hx => ?_⟩
  obtain ⟨⟨h1, h2⟩, h3⟩ := h.2 x hx
  exact ⟨⟨h1, h2⟩, h3, by unfold piecesV; rw [List.length_map, split_len]; omega⟩
end Go.Proofs.YtnpkfncccddlmaaDoorX
