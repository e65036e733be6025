import Derived.Test.YtjajehjhonabdaaWMore
import Derived.Test.YtjajehjhonabdaaWKept
import Derived.WalkKit
import Derived.WalkSpells
import Derived.Outline
import Derived.OwnWalk
import Derived.Deep.LoopGhost
import Derived.KernelRfl
import Derived.RowKit3
import Derived.Test.YtjajehjhonabdaaProg
namespace Go.Proofs.YtjajehjhonabdaaX
open Go.RowKit Go.Proofs.YtjajehjhonabdaaW.PrintWords Go.Proofs.YtjajehjhonabdaaW.PrintLast Go.Proofs.YtjajehjhonabdaaW.PrintMore
set_option linter.unusedVariables false
set_option linter.unusedSimpArgs false
abbrev I5 := Int × Int × Int × Int × Int
def kIn : Kd (I5) := Kd.pair (Kd.int .i64) (Kd.pair (Kd.int .i64) (Kd.pair (Kd.int .i64) (Kd.pair (Kd.int .i64) (Kd.int .i64))))
def encInst (x : I5) : List Value := [.int .i64 x.1, .int .i64 x.2.1, .int .i64 x.2.2.1, .int .i64 x.2.2.2.1, .int .i64 x.2.2.2.2]
theorem kIn_K {w : World} {x : I5} {cs : List Value} (h : kIn.K w x cs) : cs = encInst x := by
  obtain ⟨_, _, rfl, rfl, _, _, rfl, rfl, _, _, rfl, rfl, _, _, rfl, rfl, rfl⟩ := h
  rfl
theorem kIn_mkK (w : World) (x : I5) : kIn.K w x (encInst x) := ⟨[.int .i64 x.1], _, rfl, rfl, [.int .i64 x.2.1], _, rfl, rfl, [.int .i64 x.2.2.1], _, rfl, rfl, [.int .i64 x.2.2.2.1], _, rfl, rfl, rfl⟩
theorem kIn_sz : kIn.sz = 5 := rfl
theorem inst_at {w : World} {A : Option Addr} {l : List (I5)} {n : Nat} (h : Kd.C kIn w A n l) {i : Nat} (hi : i < l.length) :
    ∃ b off, A = some ⟨b, off, none⟩ ∧ b < w.heap.size ∧ w.cell? ⟨b, off + i * 5, none⟩ = some (.int .i64 l[i].1) ∧ w.cell? ⟨b, off + i * 5 + 1, none⟩ = some (.int .i64 l[i].2.1) ∧ w.cell? ⟨b, off + i * 5 + 2, none⟩ = some (.int .i64 l[i].2.2.1) ∧ w.cell? ⟨b, off + i * 5 + 3, none⟩ = some (.int .i64 l[i].2.2.2.1) ∧ w.cell? ⟨b, off + i * 5 + 4, none⟩ = some (.int .i64 l[i].2.2.2.2) := by
  have hn := h.1
  subst hn
  obtain ⟨ad, rfl, hc⟩ := h.2.2 (by omega)
  obtain ⟨c, hl, hK, hcell⟩ := hc i l[i] (List.getElem?_eq_getElem hi)
  obtain rfl := kIn_K hK
  rw [kIn_sz] at hcell
  obtain ⟨b, off, spot⟩ := ad
  have h0 := hcell 0 _ rfl
  have hs : spot = none := by
    obtain ⟨c', _, hK', hcell'⟩ := hc 0 l[0] (List.getElem?_eq_getElem (by omega))
    obtain rfl := kIn_K hK'
    rw [kIn_sz] at hcell'
    have h0 := hcell' 0 _ rfl
    rw [show 0 * 5 + 0 = 0 from rfl] at h0
    simp only [Addr.add, if_true, World.cell?] at h0
    cases spot with
    | none => rfl
    | some q =>
      revert h0
      split
      · simp
      · simp
  subst hs
  have hadd : ∀ n, (⟨b, off, none⟩ : Addr).add n = ⟨b, off + n, none⟩ := fun n => by unfold Addr.add; split <;> simp_all
  refine ⟨b, off, rfl, ?_, (by have := hcell 0 _ rfl; rw [hadd] at this; simpa [Nat.add_assoc] using this), (by have := hcell 1 _ rfl; rw [hadd] at this; simpa [Nat.add_assoc] using this), (by have := hcell 2 _ rfl; rw [hadd] at this; simpa [Nat.add_assoc] using this), (by have := hcell 3 _ rfl; rw [hadd] at this; simpa [Nat.add_assoc] using this), (by have := hcell 4 _ rfl; rw [hadd] at this; simpa [Nat.add_assoc] using this)⟩
  have := World.block_lt_of_cell? w _ h0
  rwa [hadd] at this
def IdxInstPost (P : I5 → Bool) (l : List (I5)) (w : World) (e : Ending) (w' : World) : Prop :=
  (∃ i : Int, e = .returned (.int .i64 i) ∧ ((i = -1 ∧ l.any P = false) ∨ ∃ k : Nat, ∃ hk : k < l.length, i = k ∧ l.any P = true ∧ P l[k] = true ∧ ∀ j (hj : j < k), P (l[j]'(by omega)) = false)) ∧ Below w.heap.size w w'
set_option maxHeartbeats 1000000 in
set_option maxRecDepth 100000 in
theorem indexInst (A : Option Addr) (c : Nat) (l : List (I5)) (F : FuncId) (caps : Array Value) (P : I5 → Bool) (w : World) (hl : Kd.C kIn w A l.length l) (hn : l.length ≤ 1000000000)
    (eg : ∀ args w, (callFunc F args).run Try.prog w = .ok (.enter F args) w)
    (HP : ∀ W x, x ∈ l → Below w.heap.size w W → Calls Try.prog F (#[(.agg #[.int .i64 x.1, .int .i64 x.2.1, .int .i64 x.2.2.1, .int .i64 x.2.2.2.1, .int .i64 x.2.2.2.2])] ++ caps) W fun e w' => e = .returned (.bool (P x)) ∧ Below W.heap.size W w') :
    Calls Try.prog 78 #[.slice A l.length c, .func (.func F) #[] caps] w (IdxInstPost P l w) := by
  have HP := Aside0.mk HP
  have HF := Aside0.mk hl
  clear hl
  obtain ⟨n, hln⟩ : ∃ n, n = l.length := ⟨_, rfl⟩
  have HL := Aside0.mk hln
  rw [← hln] at HF hn ⊢
  clear hln
  have HB0 := Aside0.mk (Below.refl w.heap.size w)
  go_enter Try.func78, Try.ntmps78
  go_wp2
  go_loopg [8] n (fun g s8 wr => ∃ k : Nat, k ≤ n ∧ n - k ≤ g ∧ s8 = .int .i64 k ∧ Aside0 (∀ j (hj : j < l.length), j < k → P l[j] = false) ∧ Aside0 (Below w.heap.size w wr))
  case atStart => exact ⟨0, by omega, by omega, rfl, ⟨fun j hj hk => by omega⟩, HB0⟩
  case round =>
    clear HB0
    obtain ⟨k, hk, hg, rfl, HA, HB⟩ := hrel
    by_cases hlt : k < n
    · have hf := Kd.C_below HF.out HB.out
      have hkl : k < l.length := by have := HL.out; omega
      obtain ⟨b, off, rfl, hbw, e0, e1, e2, e3, e4⟩ := inst_at hf hkl
      obtain ⟨x, hx⟩ : ∃ x, x = l[k] := ⟨_, rfl⟩
      have HX := Aside0.mk hx
      have HPX := Aside0.mk (HP.out wr x (by rw [hx]; exact List.getElem_mem hkl) HB.out)
      rw [← hx] at e0 e1 e2 e3 e4
      clear hx hf
      obtain ⟨q, hq⟩ : ∃ q, q = P x := ⟨_, rfl⟩
      have HQ := Aside0.mk hq
      rw [← hq] at HPX
      clear hq
      cases q with
      | true =>
        go_wp2_with fail
        refine HPX.out.mono ?_
        rintro e w' ⟨rfl, hb⟩
        have HB' := Aside0.mk (HB.out.trans (hb.mono HB.out.size))
        clear hb HPX
        go_wp2
        go_ret
        have hpk : P l[k] = true := by rw [← HX.out]; exact HQ.out.symm
        exact ⟨⟨(k : Int), rfl, .inr ⟨k, hkl, rfl, List.any_eq_true.2 ⟨l[k], List.getElem_mem hkl, hpk⟩, hpk, fun j hj => HA.out j (by omega) hj⟩⟩, HB'.out⟩
      | false =>
        go_wp2_with fail
        refine HPX.out.mono ?_
        rintro e w' ⟨rfl, hb⟩
        have HB' := Aside0.mk (HB.out.trans (hb.mono HB.out.size))
        clear hb HPX
        go_wp2
        go_roundg (n - (k + 1))
        case measure => omega
        case rel =>
          refine ⟨k + 1, by omega, by omega, by rw [show (k : Int) + 1 = ((k + 1 : Nat) : Int) by omega], ⟨fun j hj hjk => ?_⟩, HB'⟩
          by_cases e : j = k
          · subst e; rw [← HX.out]; exact HQ.out.symm
          · exact HA.out j hj (by omega)
    · go_wp2
      go_ret
      refine ⟨⟨-1, rfl, .inl ⟨rfl, ?_⟩⟩, HB.out⟩
      rw [Bool.eq_false_iff]
      intro hany
      obtain ⟨x, hx, hp⟩ := List.any_eq_true.1 hany
      obtain ⟨j, hj, rfl⟩ := List.mem_iff_getElem.1 hx
      rw [HA.out j hj (by have := HL.out; omega)] at hp
      cases hp
set_option maxHeartbeats 1000000 in
theorem containsInst (A : Option Addr) (c : Nat) (l : List (I5)) (F : FuncId) (caps : Array Value) (P : I5 → Bool) (w : World) (hl : Kd.C kIn w A l.length l) (hn : l.length ≤ 1000000000)
    (eg : ∀ args w, (callFunc F args).run Try.prog w = .ok (.enter F args) w)
    (HP : ∀ W x, x ∈ l → Below w.heap.size w W → Calls Try.prog F (#[(.agg #[.int .i64 x.1, .int .i64 x.2.1, .int .i64 x.2.2.1, .int .i64 x.2.2.2.1, .int .i64 x.2.2.2.2])] ++ caps) W fun e w' => e = .returned (.bool (P x)) ∧ Below W.heap.size W w') :
    Calls Try.prog 58 #[.slice A l.length c, .func (.func F) #[] caps] w fun e w' => e = .returned (.bool (l.any P)) ∧ Below w.heap.size w w' := by
  have HI := Aside0.mk (indexInst A c l F caps P w hl hn eg HP)
  clear hl HP eg
  generalize l.length = n at *
  obtain ⟨q, hq⟩ : ∃ q, q = l.any P := ⟨_, rfl⟩
  have HQ := Aside0.mk hq
  rw [← hq]
  clear hq
  go_enter Try.func58, Try.ntmps58
  go_wp2_with fail
  refine HI.out.mono ?_
  rintro e w' ⟨⟨i, rfl, hi⟩, hb⟩
  have HB := Aside0.mk hb
  have hq := HQ.out
  rcases hi with ⟨rfl, hi⟩ | ⟨k, hk, rfl, hi, _⟩
  · obtain rfl : q = false := by rw [hq, hi]
    clear hi hb hq
    go_wp2
    go_ret
    exact ⟨rfl, HB.out⟩
  · obtain rfl : q = true := by rw [hq, hi]
    clear hi hb hq
    go_wp2
    go_ret
    exact ⟨rfl, HB.out⟩
end Go.Proofs.YtjajehjhonabdaaX

namespace Go.Proofs.YtjajehjhonabdaaX
open Go.RowKit Go.Proofs.YtjajehjhonabdaaW.PrintWords Go.Proofs.YtjajehjhonabdaaW.PrintLast Go.Proofs.YtjajehjhonabdaaW.PrintMore
set_option linter.unusedVariables false
set_option linter.unusedSimpArgs false
def kFd : Kd (Int × Bool) := Kd.pair (Kd.int .i64) Kd.bool
def encField (x : Int × Bool) : List Value := [.int .i64 x.1, .bool x.2]
theorem kFd_K {w : World} {x : Int × Bool} {cs : List Value} (h : kFd.K w x cs) : cs = encField x := by
  obtain ⟨_, _, rfl, rfl, rfl⟩ := h
  rfl
theorem kFd_mkK (w : World) (x : Int × Bool) : kFd.K w x (encField x) := ⟨[_], [_], rfl, rfl, rfl⟩
theorem kFd_sz : kFd.sz = 2 := rfl
theorem field_at {w : World} {A : Option Addr} {l : List (Int × Bool)} {n : Nat} (h : Kd.C kFd w A n l) {i : Nat} (hi : i < l.length) :
    ∃ b off, A = some ⟨b, off, none⟩ ∧ b < w.heap.size ∧ w.cell? ⟨b, off + i * 2, none⟩ = some (.int .i64 l[i].1) ∧ w.cell? ⟨b, off + i * 2 + 1, none⟩ = some (.bool l[i].2) := by
  have hn := h.1
  subst hn
  obtain ⟨ad, rfl, hc⟩ := h.2.2 (by omega)
  obtain ⟨c, hl, hK, hcell⟩ := hc i l[i] (List.getElem?_eq_getElem hi)
  obtain rfl := kFd_K hK
  rw [kFd_sz] at hcell
  obtain ⟨b, off, spot⟩ := ad
  have h0 := hcell 0 _ rfl
  have hs : spot = none := by
    obtain ⟨c', _, hK', hcell'⟩ := hc 0 l[0] (List.getElem?_eq_getElem (by omega))
    obtain rfl := kFd_K hK'
    rw [kFd_sz] at hcell'
    have h0 := hcell' 0 _ rfl
    rw [show 0 * 2 + 0 = 0 from rfl] at h0
    simp only [Addr.add, if_true, World.cell?] at h0
    cases spot with
    | none => rfl
    | some q =>
      revert h0
      split
      · simp
      · simp
  subst hs
  have hadd : ∀ n, (⟨b, off, none⟩ : Addr).add n = ⟨b, off + n, none⟩ := fun n => by unfold Addr.add; split <;> simp_all
  refine ⟨b, off, rfl, ?_, (by have := hcell 0 _ rfl; rw [hadd] at this; simpa [Nat.add_assoc] using this), (by have := hcell 1 _ rfl; rw [hadd] at this; simpa [Nat.add_assoc] using this)⟩
  have := World.block_lt_of_cell? w _ h0
  rwa [hadd] at this
def IdxFieldPost (P : Int × Bool → Bool) (l : List (Int × Bool)) (w : World) (e : Ending) (w' : World) : Prop :=
  (∃ i : Int, e = .returned (.int .i64 i) ∧ ((i = -1 ∧ l.any P = false) ∨ ∃ k : Nat, ∃ hk : k < l.length, i = k ∧ l.any P = true ∧ P l[k] = true ∧ ∀ j (hj : j < k), P (l[j]'(by omega)) = false)) ∧ Below w.heap.size w w'
set_option maxHeartbeats 1000000 in
set_option maxRecDepth 100000 in
theorem indexField (A : Option Addr) (c : Nat) (l : List (Int × Bool)) (F : FuncId) (caps : Array Value) (P : Int × Bool → Bool) (w : World) (hl : Kd.C kFd w A l.length l) (hn : l.length ≤ 1000000000)
    (eg : ∀ args w, (callFunc F args).run Try.prog w = .ok (.enter F args) w)
    (HP : ∀ W x, x ∈ l → Below w.heap.size w W → Calls Try.prog F (#[(.agg #[.int .i64 x.1, .bool x.2])] ++ caps) W fun e w' => e = .returned (.bool (P x)) ∧ Below W.heap.size W w') :
    Calls Try.prog 88 #[.slice A l.length c, .func (.func F) #[] caps] w (IdxFieldPost P l w) := by
  have HP := Aside0.mk HP
  have HF := Aside0.mk hl
  clear hl
  obtain ⟨n, hln⟩ : ∃ n, n = l.length := ⟨_, rfl⟩
  have HL := Aside0.mk hln
  rw [← hln] at HF hn ⊢
  clear hln
  have HB0 := Aside0.mk (Below.refl w.heap.size w)
  go_enter Try.func88, Try.ntmps88
  go_wp2
  go_loopg [8] n (fun g s8 wr => ∃ k : Nat, k ≤ n ∧ n - k ≤ g ∧ s8 = .int .i64 k ∧ Aside0 (∀ j (hj : j < l.length), j < k → P l[j] = false) ∧ Aside0 (Below w.heap.size w wr))
  case atStart => exact ⟨0, by omega, by omega, rfl, ⟨fun j hj hk => by omega⟩, HB0⟩
  case round =>
    clear HB0
    obtain ⟨k, hk, hg, rfl, HA, HB⟩ := hrel
    by_cases hlt : k < n
    · have hf := Kd.C_below HF.out HB.out
      have hkl : k < l.length := by have := HL.out; omega
      obtain ⟨b, off, rfl, hbw, e0, e1⟩ := field_at hf hkl
      obtain ⟨x, hx⟩ : ∃ x, x = l[k] := ⟨_, rfl⟩
      have HX := Aside0.mk hx
      have HPX := Aside0.mk (HP.out wr x (by rw [hx]; exact List.getElem_mem hkl) HB.out)
      rw [← hx] at e0 e1
      clear hx hf
      obtain ⟨q, hq⟩ : ∃ q, q = P x := ⟨_, rfl⟩
      have HQ := Aside0.mk hq
      rw [← hq] at HPX
      clear hq
      cases q with
      | true =>
        go_wp2_with fail
        refine HPX.out.mono ?_
        rintro e w' ⟨rfl, hb⟩
        have HB' := Aside0.mk (HB.out.trans (hb.mono HB.out.size))
        clear hb HPX
        go_wp2
        go_ret
        have hpk : P l[k] = true := by rw [← HX.out]; exact HQ.out.symm
        exact ⟨⟨(k : Int), rfl, .inr ⟨k, hkl, rfl, List.any_eq_true.2 ⟨l[k], List.getElem_mem hkl, hpk⟩, hpk, fun j hj => HA.out j (by omega) hj⟩⟩, HB'.out⟩
      | false =>
        go_wp2_with fail
        refine HPX.out.mono ?_
        rintro e w' ⟨rfl, hb⟩
        have HB' := Aside0.mk (HB.out.trans (hb.mono HB.out.size))
        clear hb HPX
        go_wp2
        go_roundg (n - (k + 1))
        case measure => omega
        case rel =>
          refine ⟨k + 1, by omega, by omega, by rw [show (k : Int) + 1 = ((k + 1 : Nat) : Int) by omega], ⟨fun j hj hjk => ?_⟩, HB'⟩
          by_cases e : j = k
          · subst e; rw [← HX.out]; exact HQ.out.symm
          · exact HA.out j hj (by omega)
    · go_wp2
      go_ret
      refine ⟨⟨-1, rfl, .inl ⟨rfl, ?_⟩⟩, HB.out⟩
      rw [Bool.eq_false_iff]
      intro hany
      obtain ⟨x, hx, hp⟩ := List.any_eq_true.1 hany
      obtain ⟨j, hj, rfl⟩ := List.mem_iff_getElem.1 hx
      rw [HA.out j hj (by have := HL.out; omega)] at hp
      cases hp
set_option maxHeartbeats 1000000 in
theorem containsField (A : Option Addr) (c : Nat) (l : List (Int × Bool)) (F : FuncId) (caps : Array Value) (P : Int × Bool → Bool) (w : World) (hl : Kd.C kFd w A l.length l) (hn : l.length ≤ 1000000000)
    (eg : ∀ args w, (callFunc F args).run Try.prog w = .ok (.enter F args) w)
    (HP : ∀ W x, x ∈ l → Below w.heap.size w W → Calls Try.prog F (#[(.agg #[.int .i64 x.1, .bool x.2])] ++ caps) W fun e w' => e = .returned (.bool (P x)) ∧ Below W.heap.size W w') :
    Calls Try.prog 79 #[.slice A l.length c, .func (.func F) #[] caps] w fun e w' => e = .returned (.bool (l.any P)) ∧ Below w.heap.size w w' := by
  have HI := Aside0.mk (indexField A c l F caps P w hl hn eg HP)
  clear hl HP eg
  generalize l.length = n at *
  obtain ⟨q, hq⟩ : ∃ q, q = l.any P := ⟨_, rfl⟩
  have HQ := Aside0.mk hq
  rw [← hq]
  clear hq
  go_enter Try.func79, Try.ntmps79
  go_wp2_with fail
  refine HI.out.mono ?_
  rintro e w' ⟨⟨i, rfl, hi⟩, hb⟩
  have HB := Aside0.mk hb
  have hq := HQ.out
  rcases hi with ⟨rfl, hi⟩ | ⟨k, hk, rfl, hi, _⟩
  · obtain rfl : q = false := by rw [hq, hi]
    clear hi hb hq
    go_wp2
    go_ret
    exact ⟨rfl, HB.out⟩
  · obtain rfl : q = true := by rw [hq, hi]
    clear hi hb hq
    go_wp2
    go_ret
    exact ⟨rfl, HB.out⟩
end Go.Proofs.YtjajehjhonabdaaX

namespace Go.Proofs.YtjajehjhonabdaaX
open Go.RowKit Go.Proofs.YtjajehjhonabdaaW.PrintWords Go.Proofs.YtjajehjhonabdaaW.PrintLast Go.Proofs.YtjajehjhonabdaaW.PrintMore
set_option linter.unusedVariables false
set_option linter.unusedSimpArgs false
def kI : Kd (Int) := Kd.int .i64
def encInt (x : Int) : List Value := [.int .i64 x]
theorem kI_K {w : World} {x : Int} {cs : List Value} (h : kI.K w x cs) : cs = encInt x := by
  exact h
theorem kI_mkK (w : World) (x : Int) : kI.K w x (encInt x) := rfl
theorem kI_sz : kI.sz = 1 := rfl
theorem int_at {w : World} {A : Option Addr} {l : List (Int)} {n : Nat} (h : Kd.C kI w A n l) {i : Nat} (hi : i < l.length) :
    ∃ b off, A = some ⟨b, off, none⟩ ∧ b < w.heap.size ∧ w.cell? ⟨b, off + i, none⟩ = some (.int .i64 l[i]) := by
  have hn := h.1
  subst hn
  obtain ⟨ad, rfl, hc⟩ := h.2.2 (by omega)
  obtain ⟨c, hl, hK, hcell⟩ := hc i l[i] (List.getElem?_eq_getElem hi)
  obtain rfl := kI_K hK
  rw [kI_sz] at hcell
  obtain ⟨b, off, spot⟩ := ad
  have h0 := hcell 0 _ rfl
  have hs : spot = none := by
    obtain ⟨c', _, hK', hcell'⟩ := hc 0 l[0] (List.getElem?_eq_getElem (by omega))
    obtain rfl := kI_K hK'
    rw [kI_sz] at hcell'
    have h0 := hcell' 0 _ rfl
    rw [show 0 * 1 + 0 = 0 from rfl] at h0
    simp only [Addr.add, if_true, World.cell?] at h0
    cases spot with
    | none => rfl
    | some q =>
      revert h0
      split
      · simp
      · simp
  subst hs
  have hadd : ∀ n, (⟨b, off, none⟩ : Addr).add n = ⟨b, off + n, none⟩ := fun n => by unfold Addr.add; split <;> simp_all
  refine ⟨b, off, rfl, ?_, (by have := hcell 0 _ rfl; rw [hadd] at this; simpa [Nat.add_assoc] using this)⟩
  have := World.block_lt_of_cell? w _ h0
  rwa [hadd] at this
def IdxIntPost (P : Int → Bool) (l : List (Int)) (w : World) (e : Ending) (w' : World) : Prop :=
  (∃ i : Int, e = .returned (.int .i64 i) ∧ ((i = -1 ∧ l.any P = false) ∨ ∃ k : Nat, ∃ hk : k < l.length, i = k ∧ l.any P = true ∧ P l[k] = true ∧ ∀ j (hj : j < k), P (l[j]'(by omega)) = false)) ∧ Below w.heap.size w w'
set_option maxHeartbeats 1000000 in
set_option maxRecDepth 100000 in
theorem indexInt (A : Option Addr) (c : Nat) (l : List (Int)) (F : FuncId) (caps : Array Value) (P : Int → Bool) (w : World) (hl : Kd.C kI w A l.length l) (hn : l.length ≤ 1000000000)
    (eg : ∀ args w, (callFunc F args).run Try.prog w = .ok (.enter F args) w)
    (HP : ∀ W x, x ∈ l → Below w.heap.size w W → Calls Try.prog F (#[(.int .i64 x)] ++ caps) W fun e w' => e = .returned (.bool (P x)) ∧ Below W.heap.size W w') :
    Calls Try.prog 82 #[.slice A l.length c, .func (.func F) #[] caps] w (IdxIntPost P l w) := by
  have HP := Aside0.mk HP
  have HF := Aside0.mk hl
  clear hl
  obtain ⟨n, hln⟩ : ∃ n, n = l.length := ⟨_, rfl⟩
  have HL := Aside0.mk hln
  rw [← hln] at HF hn ⊢
  clear hln
  have HB0 := Aside0.mk (Below.refl w.heap.size w)
  go_enter Try.func82, Try.ntmps82
  go_wp2
  go_loopg [8] n (fun g s8 wr => ∃ k : Nat, k ≤ n ∧ n - k ≤ g ∧ s8 = .int .i64 k ∧ Aside0 (∀ j (hj : j < l.length), j < k → P l[j] = false) ∧ Aside0 (Below w.heap.size w wr))
  case atStart => exact ⟨0, by omega, by omega, rfl, ⟨fun j hj hk => by omega⟩, HB0⟩
  case round =>
    clear HB0
    obtain ⟨k, hk, hg, rfl, HA, HB⟩ := hrel
    by_cases hlt : k < n
    · have hf := Kd.C_below HF.out HB.out
      have hkl : k < l.length := by have := HL.out; omega
      obtain ⟨b, off, rfl, hbw, e0⟩ := int_at hf hkl
      obtain ⟨x, hx⟩ : ∃ x, x = l[k] := ⟨_, rfl⟩
      have HX := Aside0.mk hx
      have HPX := Aside0.mk (HP.out wr x (by rw [hx]; exact List.getElem_mem hkl) HB.out)
      rw [← hx] at e0
      clear hx hf
      obtain ⟨q, hq⟩ : ∃ q, q = P x := ⟨_, rfl⟩
      have HQ := Aside0.mk hq
      rw [← hq] at HPX
      clear hq
      cases q with
      | true =>
        go_wp2_with fail
        refine HPX.out.mono ?_
        rintro e w' ⟨rfl, hb⟩
        have HB' := Aside0.mk (HB.out.trans (hb.mono HB.out.size))
        clear hb HPX
        go_wp2
        go_ret
        have hpk : P l[k] = true := by rw [← HX.out]; exact HQ.out.symm
        exact ⟨⟨(k : Int), rfl, .inr ⟨k, hkl, rfl, List.any_eq_true.2 ⟨l[k], List.getElem_mem hkl, hpk⟩, hpk, fun j hj => HA.out j (by omega) hj⟩⟩, HB'.out⟩
      | false =>
        go_wp2_with fail
        refine HPX.out.mono ?_
        rintro e w' ⟨rfl, hb⟩
        have HB' := Aside0.mk (HB.out.trans (hb.mono HB.out.size))
        clear hb HPX
        go_wp2
        go_roundg (n - (k + 1))
        case measure => omega
        case rel =>
          refine ⟨k + 1, by omega, by omega, by rw [show (k : Int) + 1 = ((k + 1 : Nat) : Int) by omega], ⟨fun j hj hjk => ?_⟩, HB'⟩
          by_cases e : j = k
          · subst e; rw [← HX.out]; exact HQ.out.symm
          · exact HA.out j hj (by omega)
    · go_wp2
      go_ret
      refine ⟨⟨-1, rfl, .inl ⟨rfl, ?_⟩⟩, HB.out⟩
      rw [Bool.eq_false_iff]
      intro hany
      obtain ⟨x, hx, hp⟩ := List.any_eq_true.1 hany
      obtain ⟨j, hj, rfl⟩ := List.mem_iff_getElem.1 hx
      rw [HA.out j hj (by have := HL.out; omega)] at hp
      cases hp
set_option maxHeartbeats 1000000 in
theorem containsInt (A : Option Addr) (c : Nat) (l : List (Int)) (F : FuncId) (caps : Array Value) (P : Int → Bool) (w : World) (hl : Kd.C kI w A l.length l) (hn : l.length ≤ 1000000000)
    (eg : ∀ args w, (callFunc F args).run Try.prog w = .ok (.enter F args) w)
    (HP : ∀ W x, x ∈ l → Below w.heap.size w W → Calls Try.prog F (#[(.int .i64 x)] ++ caps) W fun e w' => e = .returned (.bool (P x)) ∧ Below W.heap.size W w') :
    Calls Try.prog 63 #[.slice A l.length c, .func (.func F) #[] caps] w fun e w' => e = .returned (.bool (l.any P)) ∧ Below w.heap.size w w' := by
  have HI := Aside0.mk (indexInt A c l F caps P w hl hn eg HP)
  clear hl HP eg
  generalize l.length = n at *
  obtain ⟨q, hq⟩ : ∃ q, q = l.any P := ⟨_, rfl⟩
  have HQ := Aside0.mk hq
  rw [← hq]
  clear hq
  go_enter Try.func63, Try.ntmps63
  go_wp2_with fail
  refine HI.out.mono ?_
  rintro e w' ⟨⟨i, rfl, hi⟩, hb⟩
  have HB := Aside0.mk hb
  have hq := HQ.out
  rcases hi with ⟨rfl, hi⟩ | ⟨k, hk, rfl, hi, _⟩
  · obtain rfl : q = false := by rw [hq, hi]
    clear hi hb hq
    go_wp2
    go_ret
    exact ⟨rfl, HB.out⟩
  · obtain rfl : q = true := by rw [hq, hi]
    clear hi hb hq
    go_wp2
    go_ret
    exact ⟨rfl, HB.out⟩
end Go.Proofs.YtjajehjhonabdaaX
