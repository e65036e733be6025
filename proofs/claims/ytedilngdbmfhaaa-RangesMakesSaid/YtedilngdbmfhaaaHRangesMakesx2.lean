-- Made by wip/hyb (a program of this session over the kit's print); its parts marked 'own text' are typed by hand.
import Derived.Test.YtedilngdbmfhaaaHRangesMakesx0
namespace Go.Proofs.Ytedilngdbmfhaaa.HRangesMakes
open Go.RowKit Go.Proofs.YtedilngdbmfhaaaW.PrintWords Go.Proofs.YtedilngdbmfhaaaW.PrintLast Go.Proofs.YtedilngdbmfhaaaW.PrintMore
attribute [local go_sem] max2_int min2_int max_two min_two max_three min_three max_four min_four   -- for this text's walks alone
set_option linter.unusedVariables false
set_option linter.unusedSimpArgs false

/-! ### ext_sortRange: function 27 -/
-- own text
def ofRg (x : S36) : Int × Int := (x.f0, x.f1)
def toRg (x : Int × Int) : S36 := ⟨x.1, x.2⟩
theorem ofRg_toRg (x : Int × Int) : ofRg (toRg x) = x := rfl
theorem toRg_ofRg (x : S36) : toRg (ofRg x) = x := rfl
theorem rg_kd : k36 = Kd.iso Go.Proofs.YtedilngdbmfhaaaX.kRg ofRg := rfl
theorem rg_fixed : Go.Proofs.YtedilngdbmfhaaaX.Fixed k36 (fun x => Go.Proofs.YtedilngdbmfhaaaX.encRg (ofRg x)) where
  len _ := rfl
  out h := by
    obtain ⟨_, _, rfl, rfl, rfl⟩ := h
    rfl
  make _ _ _ x := ⟨[_], [_], rfl, rfl, rfl⟩
def ext_sortRange.f (l0 : List S36) (_a1 : Unit) : Option (List S36) := if l0.length < 4611686018427387904 then some ((Go.Proofs.YtedilngdbmfhaaaX.sortLo (l0.map ofRg)).map toRg) else none
theorem ext_sortRange.calls (P0_ : Nat → Prop) (u9000_ : Value) (l0 : List S36) (a1 : Unit) (r : List S36) (w0 w : World) (hB : Below w0.heap.size w0 w) (ho0 : Kd.R k36 36 w w0.heap.size P0_ u9000_ l0) (h : ext_sortRange.f l0 a1 = some r) :
    Calls Try.prog 27 #[u9000_, .func (.func 28) #[] #[]] w fun e w' => e = .returned (.tuple #[]) ∧ Kd.R k36 36 w' w0.heap.size (fun k_ => (P0_ k_ ∨ w.heap.size ≤ k_)) u9000_ r ∧ Below w0.heap.size w0 w' ∧ Kept w w' (fun k_ => P0_ k_) := by
  unfold ext_sortRange.f at h
  split at h
  · rename_i hs
    obtain rfl := Option.some.inj h
    exact Go.Proofs.YtedilngdbmfhaaaX.sortRange_calls ofRg toRg ofRg_toRg rg_fixed P0_ u9000_ l0 w0 w hB ho0 hs
  · cases h

end Go.Proofs.Ytedilngdbmfhaaa.HRangesMakes
