import Derived.Test.YtjajehjhonabdaaXVerifyWords
import Derived.Test.YtjajehjhonabdaaXVerA
namespace Go.Proofs.YtjajehjhonabdaaX
open Go.RowKit Go.Proofs.YtjajehjhonabdaaW.PrintWords Go.Proofs.YtjajehjhonabdaaW.PrintLast Go.Proofs.YtjajehjhonabdaaW.PrintMore
set_option linter.unusedVariables false
set_option linter.unusedSimpArgs false
theorem fits1_any (n : Int) (o : Bool) (w : World) : Calls Try.prog 81 #[.agg #[.int .i64 n, .bool o]] w fun e w' => e = .returned (.bool (!o && n != 0)) ∧ Below w.heap.size w w' := by
  have HB := Aside0.mk ((Below.refl _ w).alloc (Nat.le_refl _) (.cells #[.int .i64 n, .bool o] 147))
  cases o
  · go_enter Try.func81, Try.ntmps81
    go_wp2
    go_ret
    exact ⟨rfl, HB.out⟩
  · go_enter Try.func81, Try.ntmps81
    go_wp2
    go_ret
    exact ⟨rfl, HB.out⟩
def badField (x : Int × Bool) : Bool := !x.2 && x.1 != 0
theorem bad_fields (A : Option Addr) (c : Nat) (l : List (Int × Bool)) (w : World) (hl : Kd.C kFd w A l.length l) (hn : l.length ≤ 1000000000) :
    Calls Try.prog 79 #[.slice A l.length c, .func (.func 81) #[] #[]] w fun e w' => e = .returned (.bool (l.any badField)) ∧ Below w.heap.size w w' :=
  containsField A c l _ #[] badField w hl hn (enters_of Try.func81 (by kernel_rfl) rfl) (fun W x _ _ => fits1_any x.1 x.2 W)
/-- Are an instruction's fields its own? -/
def fitsB (x : I5) : Bool := decide (1 ≤ x.1) && (decide (x.1 ≤ 6) && (decide (0 ≤ x.2.2.2.1 ∧ x.2.2.2.1 < 4000) && (decide (0 ≤ x.2.2.2.2 ∧ x.2.2.2.2 < 4000) && (!(fieldsL x).any badField && (if x.1 = 1 then decide (0 ≤ x.2.1 ∧ x.2.1 ≤ x.2.2.1 ∧ x.2.2.1 ≤ 255) else if x.1 = 3 then decide (0 ≤ x.2.1 ∧ x.2.1 < 64) else if x.1 = 4 then decide (1 ≤ x.2.1 ∧ x.2.1 ≤ 6) else true)))))
end Go.Proofs.YtjajehjhonabdaaX
