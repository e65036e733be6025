-- Made by wip/hyb (a program of this session over the kit's print); its parts marked 'own text' are typed by hand.
import Derived.Test.YtnpkfncccddlmaaDoorHClassTellsx0
namespace Go.Proofs.YtnpkfncccddlmaaDoor.HClassTells
open Go.RowKit Go.Proofs.YtnpkfncccddlmaaDoorW.PrintWords Go.Proofs.YtnpkfncccddlmaaDoorW.PrintLast Go.Proofs.YtnpkfncccddlmaaDoorW.PrintMore
attribute [local go_sem] max2_int min2_int max_two min_two max_three min_three max_four min_four   -- for this text's walks alone
set_option linter.unusedVariables false
set_option linter.unusedSimpArgs false

/-! ### ext_sortRange: function 61 -/
-- own text
def ofRg (x : S42) : Int × Int := (x.f0, x.f1)
def toRg (x : Int × Int) : S42 := ⟨x.1, x.2⟩
theorem ofRg_toRg (x : Int × Int) : ofRg (toRg x) = x := rfl
theorem toRg_ofRg (x : S42) : toRg (ofRg x) = x := rfl
theorem rg_kd : k42 = Kd.iso Go.Proofs.YtnpkfncccddlmaaDoorX.kRg ofRg := rfl
theorem rg_fixed : Go.Proofs.YtnpkfncccddlmaaDoorX.Fixed k42 (fun x => Go.Proofs.YtnpkfncccddlmaaDoorX.encRg (ofRg x)) where
  len _ := rfl
  out h := by
    obtain ⟨_, _, rfl, rfl, rfl⟩ := h
    rfl
  make _ _ _ x := ⟨[_], [_], rfl, rfl, rfl⟩
def ext_sortRange.f (l0 : List S42) (_a1 : Unit) : Option (List S42) := if l0.length < 4611686018427387904 then some ((Go.Proofs.YtnpkfncccddlmaaDoorX.sortLo (l0.map ofRg)).map toRg) else none
theorem ext_sortRange.calls (P0_ : Nat → Prop) (u9000_ : Value) (l0 : List S42) (a1 : Unit) (r : List S42) (w0 w : World) (hB : Below w0.heap.size w0 w) (ho0 : Kd.R k42 42 w w0.heap.size P0_ u9000_ l0) (h : ext_sortRange.f l0 a1 = some r) :
    Calls Tryd.prog 61 #[u9000_, .func (.func 62) #[] #[]] w fun e w' => e = .returned (.tuple #[]) ∧ Kd.R k42 42 w' w0.heap.size (fun k_ => (P0_ k_ ∨ w.heap.size ≤ k_)) u9000_ r ∧ Below w0.heap.size w0 w' ∧ Kept w w' (fun k_ => P0_ k_) := by
  unfold ext_sortRange.f at h
  split at h
  · rename_i hs
    obtain rfl := Option.some.inj h
    exact Go.Proofs.YtnpkfncccddlmaaDoorX.sortRange_calls ofRg toRg ofRg_toRg rg_fixed P0_ u9000_ l0 w0 w hB ho0 hs
  · cases h

end Go.Proofs.YtnpkfncccddlmaaDoor.HClassTells
