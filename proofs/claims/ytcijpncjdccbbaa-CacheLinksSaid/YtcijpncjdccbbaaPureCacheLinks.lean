/- CacheLinks: a link is as it was last said till the cache is flushed; no condition. -/
import Derived.Test.YtcijpncjdccbbaaXCacheWorks
namespace Go.Proofs.Ytcijpncjdccbbaa.Pure
open Go.ChangeMaps Go.MapKept Go.RowKit Go.Proofs.YtcijpncjdccbbaaW.PrintWords Go.Proofs.YtcijpncjdccbbaaW.PrintLast Go.Proofs.YtcijpncjdccbbaaW.PrintMore
open Go.Proofs.YtcijpncjdccbbaaX
set_option linter.unusedVariables false
set_option linter.unusedSimpArgs false
def lk0 : Nat → Int × Bool × Bool := fun _ => (0, false, false)
def kx : ByteArray := ⟨#[120]⟩
def ky : ByteArray := ⟨#[121]⟩
def kz : ByteArray := ⟨#[122]⟩
theorem set0 (a b : ThI) (x : ThI) : [a, b].set 0 x = [x, b] := rfl
theorem nextAns_other {bn : Nat} {d : Int} {v : Int × Bool × Bool} (h : ¬ d = bn) : #[.int .i64 (-1), .bool false, .bool false] = nextAns (updL lk0 bn v) d := by
  unfold nextAns
  rw [if_neg]
  rintro ⟨h1, h2, h3⟩
  unfold updL at h3
  rw [if_neg (by omega)] at h3
  exact absurd h3 (by simp [lk0])
set_option maxHeartbeats 4000000 in
theorem CacheLinks_walk (b d : Int) (mark : Bool) (w : World) :
    Calls Try.prog 5 #[.int .i64 b, .int .i64 d, .bool mark] w (fun e w' => e = .returned (.bool true) ∧ Below w.heap.size w w') := by
  have HW := Aside0.mk (works_any w)
  go_enter Try.func5, Try.ntmps5
  go_wp2_with fail
  refine HW.out.mono ?_
  rintro e w0 ⟨rfl, hb0⟩
  have HB0 := Aside0.mk hb0
  clear hb0 HW
  go_wp2_with fail
  refine (newI 2 (by omega) (by omega) w0).mono ?_
  rintro e w1 ⟨C, rfl, hC1, hb1⟩
  have HC1 := Aside0.mk hC1
  have HB1 := Aside0.mk hb1
  clear hC1 hb1
  go_wp2_with fail
  refine (putI_new w1 w0.heap.size C 2 0 [] 0 rfl HC1.out HB1.out.size (by omega) kx (by decide) (fun t ht => by cases ht) (by omega) 1).mono ?_
  rintro e w2 ⟨rfl, hC2, hb2⟩
  have HC2 := Aside0.mk hC2
  have HB2 := Aside0.mk (HB1.out.trans hb2)
  clear hC2 hb2 HC1 HB1
  go_wp2_with fail
  refine (putI_new w2 w0.heap.size C 2 0 _ 1 rfl HC2.out HB2.out.size (by omega) ky (by decide) (fun t ht => by have : t.key = kx := (by simp at ht; rw [ht]); rw [this]; decide) (by omega) 2).mono ?_
  rintro e w3 ⟨rfl, hC3, hb3⟩
  have HC3 := Aside0.mk (show CacheI w3 w0.heap.size C 2 0 [⟨kx, 1, lk0⟩, ⟨ky, 2, lk0⟩] from hC3)
  have HB3 := Aside0.mk (HB2.out.trans hb3)
  clear hC3 hb3 HC2 HB2
  by_cases hf : 0 ≤ b ∧ b ≤ 256
  · obtain ⟨bn, rfl⟩ : ∃ bn : Nat, b = bn := ⟨b.toNat, by omega⟩
    go_wp2_with fail
    refine (linkI w3 w0.heap.size C 2 0 _ HC3.out 0 1 (by simp) (by simp) bn (by omega) mark).mono ?_
    rintro e w4 ⟨rfl, hC4, hb4⟩
    have HC4 := Aside0.mk (show CacheI w4 w0.heap.size C 2 0 [⟨kx, 1, updL lk0 bn (1, mark, true)⟩, ⟨ky, 2, lk0⟩] from hC4)
    have HB4 := Aside0.mk (HB3.out.trans hb4)
    clear hC4 hb4 HC3 HB3
    go_wp2_with fail
    refine (linkI_bad w4 w0.heap.size C 2 0 _ HC4.out 2 bn 0 mark (by simp)).mono ?_
    rintro e w5 ⟨rfl, rfl⟩
    go_wp2_with fail
    refine (linkI_bad w5 w0.heap.size C 2 0 _ HC4.out 0 bn 2 mark (by simp)).mono ?_
    rintro e w6 ⟨rfl, rfl⟩
    have HC6 := HC4
    have HB6 := HB4
    clear HC4 HB4
    go_wp2_with fail
    refine (nextI_any w6 w0.heap.size C 2 0 _ HC6.out 0 (by simp) bn #[.int .i64 1, .bool mark, .bool true] (by simp [nextAns, updL]; omega)).mono ?_
    rintro e w7 ⟨rfl, hb7⟩
    have HC7 := Aside0.mk (HC6.out.below hb7)
    have HB7 := Aside0.mk (HB6.out.trans (hb7.mono HB6.out.size))
    clear hb7 HC6 HB6
    by_cases hd : d = bn
    · subst hd
      cases mark with
      | false =>
        go_wp2_with fail
        refine (nextI_any w7 w0.heap.size C 2 0 _ HC7.out 0 (by simp) bn #[.int .i64 1, .bool false, .bool true] (by simp [nextAns, updL]; omega)).mono ?_
        rintro e w8 ⟨rfl, hb8⟩
        have HC8 := Aside0.mk (HC7.out.below hb8)
        have HB8 := Aside0.mk (HB7.out.trans (hb8.mono HB7.out.size))
        clear hb8 HC7 HB7
        go_wp2_with fail
        refine (nextI_any w8 w0.heap.size C 2 0 _ HC8.out 1 (by simp) bn #[.int .i64 (-1), .bool false, .bool false] (by simp [nextAns, lk0])).mono ?_
        rintro e w9 ⟨rfl, hb9⟩
        have HC9 := Aside0.mk (HC8.out.below hb9)
        have HB9 := Aside0.mk (HB8.out.trans (hb9.mono HB8.out.size))
        clear hb9 HC8 HB8
        go_wp2_with fail
        refine (linkI w9 w0.heap.size C 2 0 _ HC9.out 0 0 (by simp) (by simp) bn (by omega) true).mono ?_
        rintro e w10 ⟨rfl, hC10, hb10⟩
        have HC10 := Aside0.mk (show CacheI w10 w0.heap.size C 2 0 [⟨kx, 1, updL (updL lk0 bn (1, false, true)) bn (0, true, true)⟩, ⟨ky, 2, lk0⟩] from hC10)
        have HB10 := Aside0.mk (HB9.out.trans hb10)
        clear hC10 hb10 HC9 HB9
        go_wp2_with fail
        refine (nextI_any w10 w0.heap.size C 2 0 _ HC10.out 0 (by simp) bn #[.int .i64 0, .bool true, .bool true] (by simp [nextAns, updL]; omega)).mono ?_
        rintro e w11 ⟨rfl, hb11⟩
        have HC11 := Aside0.mk (HC10.out.below hb11)
        have HB11 := Aside0.mk (HB10.out.trans (hb11.mono HB10.out.size))
        clear hb11 HC10 HB10
        go_wp2_with fail
        refine (putI_full w11 w0.heap.size C 2 0 _ 2 rfl HC11.out HB11.out.size (by omega) kz (by decide) (fun t ht => by have : t.key = kx ∨ t.key = ky := (by simp at ht; rcases ht with rfl | rfl; exact .inl rfl; exact .inr rfl); rcases this with h | h <;> rw [h] <;> decide) (by omega) (by omega) (by omega) 3).mono ?_
        rintro e w20 ⟨rfl, hC20, hb20⟩
        have HC20 := Aside0.mk hC20
        have HB20 := Aside0.mk (HB11.out.trans hb20)
        clear hC20 hb20
        go_wp2_with fail
        refine (nextI_any w20 w0.heap.size C 2 (0 + 1) _ HC20.out 0 (by simp) bn #[.int .i64 (-1), .bool false, .bool false] (by simp [nextAns])).mono ?_
        rintro e w21 ⟨rfl, hb21⟩
        have HC21 := Aside0.mk (HC20.out.below hb21)
        have HB21 := Aside0.mk (HB20.out.trans (hb21.mono HB20.out.size))
        clear hb21 HC20 HB20
        go_wp2_with fail
        refine (findI w21 w0.heap.size C 2 (0 + 1) _ HC21.out kx (by decide) (-1) (.inr ⟨fun t ht => by have : t.key = kz := (by simp at ht; rw [ht]); rw [this]; decide, rfl⟩)).mono ?_
        rintro e w22 ⟨rfl, hb22⟩
        have HC22 := Aside0.mk (HC21.out.below hb22)
        have HB22 := Aside0.mk (HB21.out.trans (hb22.mono HB21.out.size))
        clear hb22 HC21 HB21
        go_wp2_with fail
        refine (findI w22 w0.heap.size C 2 (0 + 1) _ HC22.out kz (by decide) 0 (.inl ⟨0, by simp, rfl, rfl⟩)).mono ?_
        rintro e w23 ⟨rfl, hb23⟩
        have HC23 := Aside0.mk (HC22.out.below hb23)
        have HB23 := Aside0.mk (HB22.out.trans (hb23.mono HB22.out.size))
        clear hb23 HC22 HB22
        go_wp2_with fail
        refine (flushesI w23 w0.heap.size C 2 (0 + 1) _ HC23.out).mono ?_
        rintro e w24 ⟨rfl, rfl⟩
        go_wp2
        go_ret
        exact ⟨rfl, HB0.out.trans (HB23.out.mono HB0.out.size)⟩
      | true =>
        go_wp2_with fail
        refine (nextI_any w7 w0.heap.size C 2 0 _ HC7.out 0 (by simp) bn #[.int .i64 1, .bool true, .bool true] (by simp [nextAns, updL]; omega)).mono ?_
        rintro e w8 ⟨rfl, hb8⟩
        have HC8 := Aside0.mk (HC7.out.below hb8)
        have HB8 := Aside0.mk (HB7.out.trans (hb8.mono HB7.out.size))
        clear hb8 HC7 HB7
        go_wp2_with fail
        refine (nextI_any w8 w0.heap.size C 2 0 _ HC8.out 1 (by simp) bn #[.int .i64 (-1), .bool false, .bool false] (by simp [nextAns, lk0])).mono ?_
        rintro e w9 ⟨rfl, hb9⟩
        have HC9 := Aside0.mk (HC8.out.below hb9)
        have HB9 := Aside0.mk (HB8.out.trans (hb9.mono HB8.out.size))
        clear hb9 HC8 HB8
        go_wp2_with fail
        refine (linkI w9 w0.heap.size C 2 0 _ HC9.out 0 0 (by simp) (by simp) bn (by omega) false).mono ?_
        rintro e w10 ⟨rfl, hC10, hb10⟩
        have HC10 := Aside0.mk (show CacheI w10 w0.heap.size C 2 0 [⟨kx, 1, updL (updL lk0 bn (1, true, true)) bn (0, false, true)⟩, ⟨ky, 2, lk0⟩] from hC10)
        have HB10 := Aside0.mk (HB9.out.trans hb10)
        clear hC10 hb10 HC9 HB9
        go_wp2_with fail
        refine (nextI_any w10 w0.heap.size C 2 0 _ HC10.out 0 (by simp) bn #[.int .i64 0, .bool false, .bool true] (by simp [nextAns, updL]; omega)).mono ?_
        rintro e w11 ⟨rfl, hb11⟩
        have HC11 := Aside0.mk (HC10.out.below hb11)
        have HB11 := Aside0.mk (HB10.out.trans (hb11.mono HB10.out.size))
        clear hb11 HC10 HB10
        go_wp2_with fail
        refine (putI_full w11 w0.heap.size C 2 0 _ 2 rfl HC11.out HB11.out.size (by omega) kz (by decide) (fun t ht => by have : t.key = kx ∨ t.key = ky := (by simp at ht; rcases ht with rfl | rfl; exact .inl rfl; exact .inr rfl); rcases this with h | h <;> rw [h] <;> decide) (by omega) (by omega) (by omega) 3).mono ?_
        rintro e w20 ⟨rfl, hC20, hb20⟩
        have HC20 := Aside0.mk hC20
        have HB20 := Aside0.mk (HB11.out.trans hb20)
        clear hC20 hb20
        go_wp2_with fail
        refine (nextI_any w20 w0.heap.size C 2 (0 + 1) _ HC20.out 0 (by simp) bn #[.int .i64 (-1), .bool false, .bool false] (by simp [nextAns])).mono ?_
        rintro e w21 ⟨rfl, hb21⟩
        have HC21 := Aside0.mk (HC20.out.below hb21)
        have HB21 := Aside0.mk (HB20.out.trans (hb21.mono HB20.out.size))
        clear hb21 HC20 HB20
        go_wp2_with fail
        refine (findI w21 w0.heap.size C 2 (0 + 1) _ HC21.out kx (by decide) (-1) (.inr ⟨fun t ht => by have : t.key = kz := (by simp at ht; rw [ht]); rw [this]; decide, rfl⟩)).mono ?_
        rintro e w22 ⟨rfl, hb22⟩
        have HC22 := Aside0.mk (HC21.out.below hb22)
        have HB22 := Aside0.mk (HB21.out.trans (hb22.mono HB21.out.size))
        clear hb22 HC21 HB21
        go_wp2_with fail
        refine (findI w22 w0.heap.size C 2 (0 + 1) _ HC22.out kz (by decide) 0 (.inl ⟨0, by simp, rfl, rfl⟩)).mono ?_
        rintro e w23 ⟨rfl, hb23⟩
        have HC23 := Aside0.mk (HC22.out.below hb23)
        have HB23 := Aside0.mk (HB22.out.trans (hb23.mono HB22.out.size))
        clear hb23 HC22 HB22
        go_wp2_with fail
        refine (flushesI w23 w0.heap.size C 2 (0 + 1) _ HC23.out).mono ?_
        rintro e w24 ⟨rfl, rfl⟩
        go_wp2
        go_ret
        exact ⟨rfl, HB0.out.trans (HB23.out.mono HB0.out.size)⟩
    · have hdb : (d == (bn : Int)) = false := by simpa using hd
      have HD := Aside0.mk hd
      clear hd
      cases mark with
      | false =>
        go_wp2_with fail
        refine (nextI_any w7 w0.heap.size C 2 0 _ HC7.out 0 (by simp) d #[.int .i64 (-1), .bool false, .bool false] (nextAns_other HD.out)).mono ?_
        rintro e w8 ⟨rfl, hb8⟩
        have HC8 := Aside0.mk (HC7.out.below hb8)
        have HB8 := Aside0.mk (HB7.out.trans (hb8.mono HB7.out.size))
        clear hb8 HC7 HB7
        go_wp2_with fail
        refine (nextI_any w8 w0.heap.size C 2 0 _ HC8.out 1 (by simp) bn #[.int .i64 (-1), .bool false, .bool false] (by simp [nextAns, lk0])).mono ?_
        rintro e w9 ⟨rfl, hb9⟩
        have HC9 := Aside0.mk (HC8.out.below hb9)
        have HB9 := Aside0.mk (HB8.out.trans (hb9.mono HB8.out.size))
        clear hb9 HC8 HB8
        go_wp2_with fail
        refine (linkI w9 w0.heap.size C 2 0 _ HC9.out 0 0 (by simp) (by simp) bn (by omega) true).mono ?_
        rintro e w10 ⟨rfl, hC10, hb10⟩
        have HC10 := Aside0.mk (show CacheI w10 w0.heap.size C 2 0 [⟨kx, 1, updL (updL lk0 bn (1, false, true)) bn (0, true, true)⟩, ⟨ky, 2, lk0⟩] from hC10)
        have HB10 := Aside0.mk (HB9.out.trans hb10)
        clear hC10 hb10 HC9 HB9
        go_wp2_with fail
        refine (nextI_any w10 w0.heap.size C 2 0 _ HC10.out 0 (by simp) bn #[.int .i64 0, .bool true, .bool true] (by simp [nextAns, updL]; omega)).mono ?_
        rintro e w11 ⟨rfl, hb11⟩
        have HC11 := Aside0.mk (HC10.out.below hb11)
        have HB11 := Aside0.mk (HB10.out.trans (hb11.mono HB10.out.size))
        clear hb11 HC10 HB10
        go_wp2_with fail
        refine (putI_full w11 w0.heap.size C 2 0 _ 2 rfl HC11.out HB11.out.size (by omega) kz (by decide) (fun t ht => by have : t.key = kx ∨ t.key = ky := (by simp at ht; rcases ht with rfl | rfl; exact .inl rfl; exact .inr rfl); rcases this with h | h <;> rw [h] <;> decide) (by omega) (by omega) (by omega) 3).mono ?_
        rintro e w20 ⟨rfl, hC20, hb20⟩
        have HC20 := Aside0.mk hC20
        have HB20 := Aside0.mk (HB11.out.trans hb20)
        clear hC20 hb20
        go_wp2_with fail
        refine (nextI_any w20 w0.heap.size C 2 (0 + 1) _ HC20.out 0 (by simp) bn #[.int .i64 (-1), .bool false, .bool false] (by simp [nextAns])).mono ?_
        rintro e w21 ⟨rfl, hb21⟩
        have HC21 := Aside0.mk (HC20.out.below hb21)
        have HB21 := Aside0.mk (HB20.out.trans (hb21.mono HB20.out.size))
        clear hb21 HC20 HB20
        go_wp2_with fail
        refine (findI w21 w0.heap.size C 2 (0 + 1) _ HC21.out kx (by decide) (-1) (.inr ⟨fun t ht => by have : t.key = kz := (by simp at ht; rw [ht]); rw [this]; decide, rfl⟩)).mono ?_
        rintro e w22 ⟨rfl, hb22⟩
        have HC22 := Aside0.mk (HC21.out.below hb22)
        have HB22 := Aside0.mk (HB21.out.trans (hb22.mono HB21.out.size))
        clear hb22 HC21 HB21
        go_wp2_with fail
        refine (findI w22 w0.heap.size C 2 (0 + 1) _ HC22.out kz (by decide) 0 (.inl ⟨0, by simp, rfl, rfl⟩)).mono ?_
        rintro e w23 ⟨rfl, hb23⟩
        have HC23 := Aside0.mk (HC22.out.below hb23)
        have HB23 := Aside0.mk (HB22.out.trans (hb23.mono HB22.out.size))
        clear hb23 HC22 HB22
        go_wp2_with fail
        refine (flushesI w23 w0.heap.size C 2 (0 + 1) _ HC23.out).mono ?_
        rintro e w24 ⟨rfl, rfl⟩
        go_wp2
        go_ret
        exact ⟨rfl, HB0.out.trans (HB23.out.mono HB0.out.size)⟩
      | true =>
        go_wp2_with fail
        refine (nextI_any w7 w0.heap.size C 2 0 _ HC7.out 0 (by simp) d #[.int .i64 (-1), .bool false, .bool false] (nextAns_other HD.out)).mono ?_
        rintro e w8 ⟨rfl, hb8⟩
        have HC8 := Aside0.mk (HC7.out.below hb8)
        have HB8 := Aside0.mk (HB7.out.trans (hb8.mono HB7.out.size))
        clear hb8 HC7 HB7
        go_wp2_with fail
        refine (nextI_any w8 w0.heap.size C 2 0 _ HC8.out 1 (by simp) bn #[.int .i64 (-1), .bool false, .bool false] (by simp [nextAns, lk0])).mono ?_
        rintro e w9 ⟨rfl, hb9⟩
        have HC9 := Aside0.mk (HC8.out.below hb9)
        have HB9 := Aside0.mk (HB8.out.trans (hb9.mono HB8.out.size))
        clear hb9 HC8 HB8
        go_wp2_with fail
        refine (linkI w9 w0.heap.size C 2 0 _ HC9.out 0 0 (by simp) (by simp) bn (by omega) false).mono ?_
        rintro e w10 ⟨rfl, hC10, hb10⟩
        have HC10 := Aside0.mk (show CacheI w10 w0.heap.size C 2 0 [⟨kx, 1, updL (updL lk0 bn (1, true, true)) bn (0, false, true)⟩, ⟨ky, 2, lk0⟩] from hC10)
        have HB10 := Aside0.mk (HB9.out.trans hb10)
        clear hC10 hb10 HC9 HB9
        go_wp2_with fail
        refine (nextI_any w10 w0.heap.size C 2 0 _ HC10.out 0 (by simp) bn #[.int .i64 0, .bool false, .bool true] (by simp [nextAns, updL]; omega)).mono ?_
        rintro e w11 ⟨rfl, hb11⟩
        have HC11 := Aside0.mk (HC10.out.below hb11)
        have HB11 := Aside0.mk (HB10.out.trans (hb11.mono HB10.out.size))
        clear hb11 HC10 HB10
        go_wp2_with fail
        refine (putI_full w11 w0.heap.size C 2 0 _ 2 rfl HC11.out HB11.out.size (by omega) kz (by decide) (fun t ht => by have : t.key = kx ∨ t.key = ky := (by simp at ht; rcases ht with rfl | rfl; exact .inl rfl; exact .inr rfl); rcases this with h | h <;> rw [h] <;> decide) (by omega) (by omega) (by omega) 3).mono ?_
        rintro e w20 ⟨rfl, hC20, hb20⟩
        have HC20 := Aside0.mk hC20
        have HB20 := Aside0.mk (HB11.out.trans hb20)
        clear hC20 hb20
        go_wp2_with fail
        refine (nextI_any w20 w0.heap.size C 2 (0 + 1) _ HC20.out 0 (by simp) bn #[.int .i64 (-1), .bool false, .bool false] (by simp [nextAns])).mono ?_
        rintro e w21 ⟨rfl, hb21⟩
        have HC21 := Aside0.mk (HC20.out.below hb21)
        have HB21 := Aside0.mk (HB20.out.trans (hb21.mono HB20.out.size))
        clear hb21 HC20 HB20
        go_wp2_with fail
        refine (findI w21 w0.heap.size C 2 (0 + 1) _ HC21.out kx (by decide) (-1) (.inr ⟨fun t ht => by have : t.key = kz := (by simp at ht; rw [ht]); rw [this]; decide, rfl⟩)).mono ?_
        rintro e w22 ⟨rfl, hb22⟩
        have HC22 := Aside0.mk (HC21.out.below hb22)
        have HB22 := Aside0.mk (HB21.out.trans (hb22.mono HB21.out.size))
        clear hb22 HC21 HB21
        go_wp2_with fail
        refine (findI w22 w0.heap.size C 2 (0 + 1) _ HC22.out kz (by decide) 0 (.inl ⟨0, by simp, rfl, rfl⟩)).mono ?_
        rintro e w23 ⟨rfl, hb23⟩
        have HC23 := Aside0.mk (HC22.out.below hb23)
        have HB23 := Aside0.mk (HB22.out.trans (hb23.mono HB22.out.size))
        clear hb23 HC22 HB22
        go_wp2_with fail
        refine (flushesI w23 w0.heap.size C 2 (0 + 1) _ HC23.out).mono ?_
        rintro e w24 ⟨rfl, rfl⟩
        go_wp2
        go_ret
        exact ⟨rfl, HB0.out.trans (HB23.out.mono HB0.out.size)⟩
  · have HF := Aside0.mk hf
    by_cases hb : 0 ≤ b
    · have hb2 : decide (b ≤ 256) = false := decide_eq_false (fun x => hf ⟨hb, x⟩)
      clear hf
      go_wp2_with fail
      clear hb2
      refine (linkI_bad w3 w0.heap.size C 2 0 _ HC3.out 0 b 1 mark (fun x => HF.out x.2.2)).mono ?_
      rintro e w4 ⟨rfl, rfl⟩
      go_wp2_with fail
      refine (linkI_bad w4 w0.heap.size C 2 0 _ HC3.out 2 b 0 mark (by simp)).mono ?_
      rintro e w5 ⟨rfl, rfl⟩
      go_wp2_with fail
      refine (linkI_bad w5 w0.heap.size C 2 0 _ HC3.out 0 b 2 mark (by simp)).mono ?_
      rintro e w6 ⟨rfl, rfl⟩
      have HC6 := HC3
      have HB6 := HB3
      clear HC3 HB3
      go_wp2_with fail
      refine (nextI_any w6 w0.heap.size C 2 0 _ HC6.out 0 (by simp) b #[.int .i64 (-1), .bool false, .bool false] (by simp [nextAns, lk0])).mono ?_
      rintro e w7 ⟨rfl, hb7⟩
      have HC7 := Aside0.mk (HC6.out.below hb7)
      have HB7 := Aside0.mk (HB6.out.trans (hb7.mono HB6.out.size))
      clear hb7 HC6 HB6
      go_wp2_with fail
      refine (nextI_any w7 w0.heap.size C 2 0 _ HC7.out 0 (by simp) d #[.int .i64 (-1), .bool false, .bool false] (by simp [nextAns, lk0])).mono ?_
      rintro e w8 ⟨rfl, hb8⟩
      have HC8 := Aside0.mk (HC7.out.below hb8)
      have HB8 := Aside0.mk (HB7.out.trans (hb8.mono HB7.out.size))
      clear hb8 HC7 HB7
      go_wp2_with fail
      refine (nextI_any w8 w0.heap.size C 2 0 _ HC8.out 1 (by simp) b #[.int .i64 (-1), .bool false, .bool false] (by simp [nextAns, lk0])).mono ?_
      rintro e w9 ⟨rfl, hb9⟩
      have HC9 := Aside0.mk (HC8.out.below hb9)
      have HB9 := Aside0.mk (HB8.out.trans (hb9.mono HB8.out.size))
      clear hb9 HC8 HB8
      go_wp2_with fail
      refine (linkI_bad w9 w0.heap.size C 2 0 _ HC9.out 0 b 0 (!mark) (fun x => HF.out x.2.2)).mono ?_
      rintro e w10 ⟨rfl, rfl⟩
      have HC10 := HC9
      have HB10 := HB9
      clear HC9 HB9
      go_wp2_with fail
      refine (nextI_any w10 w0.heap.size C 2 0 _ HC10.out 0 (by simp) b #[.int .i64 (-1), .bool false, .bool false] (by simp [nextAns, lk0])).mono ?_
      rintro e w11 ⟨rfl, hb11⟩
      have HC11 := Aside0.mk (HC10.out.below hb11)
      have HB11 := Aside0.mk (HB10.out.trans (hb11.mono HB10.out.size))
      clear hb11 HC10 HB10
      go_wp2_with fail
      refine (putI_full w11 w0.heap.size C 2 0 _ 2 rfl HC11.out HB11.out.size (by omega) kz (by decide) (fun t ht => by have : t.key = kx ∨ t.key = ky := (by simp at ht; rcases ht with rfl | rfl; exact .inl rfl; exact .inr rfl); rcases this with h | h <;> rw [h] <;> decide) (by omega) (by omega) (by omega) 3).mono ?_
      rintro e w20 ⟨rfl, hC20, hb20⟩
      have HC20 := Aside0.mk hC20
      have HB20 := Aside0.mk (HB11.out.trans hb20)
      clear hC20 hb20
      go_wp2_with fail
      refine (nextI_any w20 w0.heap.size C 2 (0 + 1) _ HC20.out 0 (by simp) b #[.int .i64 (-1), .bool false, .bool false] (by simp [nextAns])).mono ?_
      rintro e w21 ⟨rfl, hb21⟩
      have HC21 := Aside0.mk (HC20.out.below hb21)
      have HB21 := Aside0.mk (HB20.out.trans (hb21.mono HB20.out.size))
      clear hb21 HC20 HB20
      go_wp2_with fail
      refine (findI w21 w0.heap.size C 2 (0 + 1) _ HC21.out kx (by decide) (-1) (.inr ⟨fun t ht => by have : t.key = kz := (by simp at ht; rw [ht]); rw [this]; decide, rfl⟩)).mono ?_
      rintro e w22 ⟨rfl, hb22⟩
      have HC22 := Aside0.mk (HC21.out.below hb22)
      have HB22 := Aside0.mk (HB21.out.trans (hb22.mono HB21.out.size))
      clear hb22 HC21 HB21
      go_wp2_with fail
      refine (findI w22 w0.heap.size C 2 (0 + 1) _ HC22.out kz (by decide) 0 (.inl ⟨0, by simp, rfl, rfl⟩)).mono ?_
      rintro e w23 ⟨rfl, hb23⟩
      have HC23 := Aside0.mk (HC22.out.below hb23)
      have HB23 := Aside0.mk (HB22.out.trans (hb23.mono HB22.out.size))
      clear hb23 HC22 HB22
      go_wp2_with fail
      refine (flushesI w23 w0.heap.size C 2 (0 + 1) _ HC23.out).mono ?_
      rintro e w24 ⟨rfl, rfl⟩
      go_wp2
      go_ret
      exact ⟨rfl, HB0.out.trans (HB23.out.mono HB0.out.size)⟩
    · have hb2 : decide (0 ≤ b) = false := decide_eq_false hb
      clear hf hb
      go_wp2_with fail
      clear hb2
      refine (linkI_bad w3 w0.heap.size C 2 0 _ HC3.out 0 b 1 mark (fun x => HF.out x.2.2)).mono ?_
      rintro e w4 ⟨rfl, rfl⟩
      go_wp2_with fail
      refine (linkI_bad w4 w0.heap.size C 2 0 _ HC3.out 2 b 0 mark (by simp)).mono ?_
      rintro e w5 ⟨rfl, rfl⟩
      go_wp2_with fail
      refine (linkI_bad w5 w0.heap.size C 2 0 _ HC3.out 0 b 2 mark (by simp)).mono ?_
      rintro e w6 ⟨rfl, rfl⟩
      have HC6 := HC3
      have HB6 := HB3
      clear HC3 HB3
      go_wp2_with fail
      refine (nextI_any w6 w0.heap.size C 2 0 _ HC6.out 0 (by simp) b #[.int .i64 (-1), .bool false, .bool false] (by simp [nextAns, lk0])).mono ?_
      rintro e w7 ⟨rfl, hb7⟩
      have HC7 := Aside0.mk (HC6.out.below hb7)
      have HB7 := Aside0.mk (HB6.out.trans (hb7.mono HB6.out.size))
      clear hb7 HC6 HB6
      go_wp2_with fail
      refine (nextI_any w7 w0.heap.size C 2 0 _ HC7.out 0 (by simp) d #[.int .i64 (-1), .bool false, .bool false] (by simp [nextAns, lk0])).mono ?_
      rintro e w8 ⟨rfl, hb8⟩
      have HC8 := Aside0.mk (HC7.out.below hb8)
      have HB8 := Aside0.mk (HB7.out.trans (hb8.mono HB7.out.size))
      clear hb8 HC7 HB7
      go_wp2_with fail
      refine (nextI_any w8 w0.heap.size C 2 0 _ HC8.out 1 (by simp) b #[.int .i64 (-1), .bool false, .bool false] (by simp [nextAns, lk0])).mono ?_
      rintro e w9 ⟨rfl, hb9⟩
      have HC9 := Aside0.mk (HC8.out.below hb9)
      have HB9 := Aside0.mk (HB8.out.trans (hb9.mono HB8.out.size))
      clear hb9 HC8 HB8
      go_wp2_with fail
      refine (linkI_bad w9 w0.heap.size C 2 0 _ HC9.out 0 b 0 (!mark) (fun x => HF.out x.2.2)).mono ?_
      rintro e w10 ⟨rfl, rfl⟩
      have HC10 := HC9
      have HB10 := HB9
      clear HC9 HB9
      go_wp2_with fail
      refine (nextI_any w10 w0.heap.size C 2 0 _ HC10.out 0 (by simp) b #[.int .i64 (-1), .bool false, .bool false] (by simp [nextAns, lk0])).mono ?_
      rintro e w11 ⟨rfl, hb11⟩
      have HC11 := Aside0.mk (HC10.out.below hb11)
      have HB11 := Aside0.mk (HB10.out.trans (hb11.mono HB10.out.size))
      clear hb11 HC10 HB10
      go_wp2_with fail
      refine (putI_full w11 w0.heap.size C 2 0 _ 2 rfl HC11.out HB11.out.size (by omega) kz (by decide) (fun t ht => by have : t.key = kx ∨ t.key = ky := (by simp at ht; rcases ht with rfl | rfl; exact .inl rfl; exact .inr rfl); rcases this with h | h <;> rw [h] <;> decide) (by omega) (by omega) (by omega) 3).mono ?_
      rintro e w20 ⟨rfl, hC20, hb20⟩
      have HC20 := Aside0.mk hC20
      have HB20 := Aside0.mk (HB11.out.trans hb20)
      clear hC20 hb20
      go_wp2_with fail
      refine (nextI_any w20 w0.heap.size C 2 (0 + 1) _ HC20.out 0 (by simp) b #[.int .i64 (-1), .bool false, .bool false] (by simp [nextAns])).mono ?_
      rintro e w21 ⟨rfl, hb21⟩
      have HC21 := Aside0.mk (HC20.out.below hb21)
      have HB21 := Aside0.mk (HB20.out.trans (hb21.mono HB20.out.size))
      clear hb21 HC20 HB20
      go_wp2_with fail
      refine (findI w21 w0.heap.size C 2 (0 + 1) _ HC21.out kx (by decide) (-1) (.inr ⟨fun t ht => by have : t.key = kz := (by simp at ht; rw [ht]); rw [this]; decide, rfl⟩)).mono ?_
      rintro e w22 ⟨rfl, hb22⟩
      have HC22 := Aside0.mk (HC21.out.below hb22)
      have HB22 := Aside0.mk (HB21.out.trans (hb22.mono HB21.out.size))
      clear hb22 HC21 HB21
      go_wp2_with fail
      refine (findI w22 w0.heap.size C 2 (0 + 1) _ HC22.out kz (by decide) 0 (.inl ⟨0, by simp, rfl, rfl⟩)).mono ?_
      rintro e w23 ⟨rfl, hb23⟩
      have HC23 := Aside0.mk (HC22.out.below hb23)
      have HB23 := Aside0.mk (HB22.out.trans (hb23.mono HB22.out.size))
      clear hb23 HC22 HB22
      go_wp2_with fail
      refine (flushesI w23 w0.heap.size C 2 (0 + 1) _ HC23.out).mono ?_
      rintro e w24 ⟨rfl, rfl⟩
      go_wp2
      go_ret
      exact ⟨rfl, HB0.out.trans (HB23.out.mono HB0.out.size)⟩
end Go.Proofs.Ytcijpncjdccbbaa.Pure
